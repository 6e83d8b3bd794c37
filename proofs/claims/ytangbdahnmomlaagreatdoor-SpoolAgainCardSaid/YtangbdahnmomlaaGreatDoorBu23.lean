/- entry: nonces, a file parted, made and opened by an ideal box. Conditions: the lengths fit; what Go's variables hold. entry: a file made and opened by a box of which it is known how it seals and opens; a name. Conditions: the lengths fit; what Go's variables hold. entry: files made and opened by an ideal box. Conditions: the lengths fit; what Go's variables hold. spool, plainly: its rows, what it reads, opens, drops, recovers, writes; over a box that is real or ideal. No program. -/
import Derived.Test.YtangbdahnmomlaaGreatDoorBu13
import Derived.Test.YtangbdahnmomlaaGreatDoorBu15
import Derived.Test.YtangbdahnmomlaaGreatDoorBu16
import Derived.Test.YtangbdahnmomlaaGreatDoorBu17
import Derived.Test.YtangbdahnmomlaaGreatDoorBu19
import Derived.Test.YtangbdahnmomlaaGreatDoorBu21
import Derived.Test.YtangbdahnmomlaaGreatDoorBu22
set_option linter.unnecessarySimpa false
set_option linter.unusedSimpArgs false
set_option linter.unusedVariables false
set_option maxHeartbeats 4000000
set_option maxRecDepth 100000
namespace Go.Proofs.YtangbdahnmomlaaGreatDoor
section
open Go.RowKit Go.Maps
section
variable {w0 w : World} {L : List Res} {F0 : List Nat} {b : Nat} {v : Value} {D : Bs} {M : Mp Sealed3}
theorem makeZ (n : Nat) (hn : n ≤ 1000000) (W : World) : (Instr.makeSlice 79 (.int .i64 n) (.int .i64 n)).run Tryz.prog W = .ok (.slice (some ⟨W.heap.size,0,none⟩) n n) (W.alloc (.cells (rowB (zeros n)) 5)):=by
  have:=run_make_row' (P:=Tryz.prog) 79 5 (.int .u8 0) 1 Tryz.underlying79 (by kernel_rfl) rfl .i64 .i64 n (by omega) (by omega) W
  rw [made_rowB] at this
  exact this
theorem textZ (n : Nat) (W : World) (q : Nat) (hc : ∀ j,j < n → W.cell? ⟨q,j,none⟩ = some (.int .u8 0)) : (convert 79 9 (.slice (some ⟨q,0,none⟩) n n)).run Tryz.prog W = .ok (.string ⟨(zeros n).toArray⟩) W:=by
  have:=run_convert_bytes_back (P:=Tryz.prog) W 79 9 5 ⟨q,0,none⟩ n (zeros n) Tryz.underlying79 Tryz.underlying5 Tryz.underlying9 (fun j hj => by
    rw [zeros_length] at hj
    have h1:=hc j hj
    have e : (zeros n)[j]'(by rw [zeros_length]; exact hj) = 0:=by unfold zeros; rw [List.getElem_replicate]
    have add : (⟨q,0,none⟩ : Addr).add j = ⟨q,0 + j,none⟩:=by unfold Addr.add; split <;> simp_all
    rw [e,add,Nat.zero_add]
    exact h1)
  rw [zeros_length] at this
  exact this
theorem cellZ (n : Nat) (W : World) (j : Nat) (hj : j < n) : (W.alloc (.cells (rowB (zeros n)) 5)).cell? ⟨W.heap.size,j,none⟩ = some (.int .u8 0):=by
  have h:=heap_alloc_new W (.cells (rowB (zeros n)) 5)
  simp only [World.cell?,h]
  rw [rowB_get]
  unfold zeros
  rw [List.getElem?_replicate,if_pos hj]
  rfl
theorem enNonce_any (n : Nat) (w : World) (_hn : n < 18446744073709551616) :
    Calls Tryz.prog 115 #[.int .u64 n] w fun e w2 => e = .returned (.string ⟨(nonceE n).toArray⟩) ∧ Ext [] w w2:=by
  have hmk : ∀ W,(Instr.makeSlice 79 (.int .i64 4) (.int .i64 4)).run Tryz.prog W = .ok (.slice (some ⟨W.heap.size,0,none⟩) 4 4) (W.alloc (.cells #[.int .u8 0,.int .u8 0,.int .u8 0,.int .u8 0] 5)):=fun W => makeZ 4 (by omega) W
  have hcv : ∀ (W : World) (b : Nat),W.cell? ⟨b,0,none⟩ = some (.int .u8 0) → W.cell? ⟨b,1,none⟩ = some (.int .u8 0) → W.cell? ⟨b,2,none⟩ = some (.int .u8 0) → W.cell? ⟨b,3,none⟩ = some (.int .u8 0) →
      (convert 79 9 (.slice (some ⟨b,0,none⟩) 4 4)).run Tryz.prog W = .ok (.string ⟨#[0,0,0,0]⟩) W:=fun W b h0 h1 h2 h3 => textZ 4 W b (fun j hj4 => by
      obtain rfl | rfl | rfl | rfl : j = 0 ∨ j = 1 ∨ j = 2 ∨ j = 3:=by omega
      · exact h0
      · exact h1
      · exact h2
      · exact h3)
  have hadd:=add_str [0,0,0,0] (highB n 8) (by rw [highB_length]; decide)
  have HN : Hid (nonceE n = [0,0,0,0] ++ highB n 8):=rfl
  go_enter Tryz.func115,Tryz.ntmps115
  go_wp2
  go_region_with (first | (go_at_call 111; refine (high_any n 8 _ (by omega)).mono ?_; rintro e w2 ⟨rfl,hx⟩; have hcx:=hx.old))
  all_goals
    have HX:=Lib.hid hx
    clear hx hcx hcv hmk hadd
    go_wp2
    go_ret
    refine ⟨by rw [HN.out]; rfl,?_⟩
    first
      | exact ((Ext.refl [] w).drew).trans HX.out (by simp)
      | exact (((Ext.refl [] w).drew).trans HX.out (by simp)).alloc _
      | exact (((Ext.refl [] w).alloc _).drew).trans HX.out (by simp)
theorem drop_tail2 {s a b : Bs} (e : s = a ++ b) : s.drop (s.length - b.length) = b:=by
  subst e
  rw [List.length_append,Nat.add_sub_cancel]
  exact List.drop_left
theorem enSplitS (s : Bs) (hs : s.length ≤ 1000000) (E : Env w0) (S : Sp w0 [] w L) : Calls Tryz.prog 113 #[.string ⟨s.toArray⟩] w fun r w2 => ∃ v,r = .returned (.tuple #[enAgg (enSplit s).1 v,.string ⟨(enSplit s).2.1.toArray⟩,.string ⟨(enSplit s).2.2.1.toArray⟩,.int .i64 (enSplit s).2.2.2]) ∧ Sp w0 [] w2 (tosR v (enSplit s).1.rcs :: L):=by
  have HS0:=Lib.hid (S.box #[.int .u64 0,.string ⟨#[]⟩,.int .u64 0,.int .u64 0,.string ⟨#[]⟩,.string ⟨#[]⟩,.slice none 0 0,.int .u64 0,.int .u64 0,.int .i64 0] 40)
  have HL:=Lib.hid hs
  have HE:=Lib.hid E
  have HV : Hid (enSplit s = if (enRead 300 (Rd.text ⟨s,false⟩ 4000).1).2 = 0 then ((enRead 300 (Rd.text ⟨s,false⟩ 4000).1).1,(Rd.text ⟨s,false⟩ 4000).1,(Rd.text ⟨s,false⟩ 4000).2.s,0) else (En.zero,[],[],2)):=rfl
  have HOK:=Lib.hid (@split_ok s)
  have HTL:=Lib.hid (text_fst_le ⟨s,false⟩ 4000)
  clear S hs E
  go_enter Tryz.func113,Tryz.ntmps113
  go_upto_region 1 with (fail)
  generalize w.alloc (.cells #[.int .u64 0,.string ⟨#[]⟩,.int .u64 0,.int .u64 0,.string ⟨#[]⟩,.string ⟨#[]⟩,.slice none 0 0,.int .u64 0,.int .u64 0,.int .i64 0] 40) = w1 at *
  generalize w.heap.size = q2 at *
  go_wp2_with fail
  refine (fromS HS0.out s).mono ?_
  rintro e w2 ⟨b,rfl,S⟩
  have HS1:=Lib.hid S
  clear S HS0
  go_wp2_with fail
  refine (rdTextS 4000 4000 rfl HS1.out (by have:=HL.out; dsimp only; omega) (by omega)).mono ?_
  rintro e w3 ⟨rfl,S⟩
  generalize Rd.text ⟨s,false⟩ 4000 = tr at *
  have HS3:=Lib.hid S
  clear S HS1
  go_wp2_with fail
  refine (enReadS tr.1 (by have:=HTL.out; omega) HE.out HS3.out).mono ?_
  rintro r w4 ⟨v,rfl,S⟩
  generalize enRead 300 tr.1 = q at *
  obtain ⟨e,f⟩:=q
  dsimp only at *
  obtain ⟨va,vc,rfl⟩:=S.tosAt.form
  unfold enAgg
  have S5:=S.box (enCells e (.slice va e.rcs.length vc)) 40
  unfold enCells at S5
  have HS5:=Lib.hid S5
  clear S S5 HS3
  by_cases hf : f = 0
  · subst hf
    have HW : Hid (enSplit s = (e,tr.1,tr.2.s,0)):=HV.out.trans (if_pos rfl)
    have HSUF : Hid (s.drop (s.length - tr.2.s.length) = tr.2.s ∧ tr.2.s.length ≤ s.length):=by
      have h1:=HOK.out (by rw [HW.out])
      rw [HW.out] at h1
      exact ⟨drop_tail2 h1.2.2,by have:=congrArg List.length h1.2.2; rw [List.length_append] at this; dsimp only at this; omega⟩
    go_upto_region 6 with (fail)
    generalize w4.alloc _ = w5 at *
    generalize w4.heap.size = q8 at *
    have e8:=HS5.out.cell
    have SQ:=(Sp.pick [_,_,_,_] [3,1] (by decide) (HS5.out))
    have d0:=SQ.cell
    have f0:=SQ.free
    have HSQ:=Lib.hid ((((((((((((SQ.set (o:=0) (.int .u64 e.id)).set (o:=1) (.string ⟨e.dom.toArray⟩)).set (o:=2) (.int .u64 e.ep)).set (o:=3) (.int .u64 e.cnt)).set (o:=4) (.string ⟨e.frm.1.toArray⟩)).set (o:=5) (.string ⟨e.frm.2.toArray⟩)).set (o:=6) (.slice va e.rcs.length vc)).set (o:=7) (.int .u64 e.born)).set (o:=8) (.int .u64 e.nxt)).set (o:=9) (.int .i64 e.tries)).drop).drew)
    clear SQ
    have hls : (s.length : Int) ≤ 1000000:=by have:=HL.out; omega
    have hlr : (tr.2.s.length : Int) ≤ s.length:=by have:=HSUF.out.2; omega
    have hwr : IntKind.i64.wrap ((s.length : Int) - tr.2.s.length) = ((s.length - tr.2.s.length : Nat) : Int):=by rw [IntWalk.i64_in _ (by omega)]; omega
    have hc1 : 0 ≤ IntKind.i64.wrap ((s.length : Int) - tr.2.s.length):=by rw [hwr]; omega
    have hc2 : IntKind.i64.wrap ((s.length : Int) - tr.2.s.length) ≤ (s.length : Int):=by rw [hwr]; omega
    have hcut:=cut_tail s (s.length - tr.2.s.length) s.length rfl
    rw [HSUF.out.1] at hcut
    have HRD:=Lib.hid ((Sp.pick [_,_,_,_] [2,0,1,3] (by decide) (HS5.out)).drew)
    go_region_with (first | (go_at_call 64; refine (rdLeftS HRD.out).mono ?_; rintro e w6 ⟨rfl,rfl⟩) | (rw [if_pos ⟨hc1,hc2⟩,hwr,Int.toNat_natCast,hcut]))
    all_goals
      go_simp
      clear HRD hcut hc1 hc2 hwr hls hlr HS5 HOK HSUF
      go_wp2
      rw [HW.out]
      exact bodyPost_ret (v:=.tuple #[.agg #[.int .u64 e.id,.string ⟨e.dom.toArray⟩,.int .u64 e.ep,.int .u64 e.cnt,.string ⟨e.frm.1.toArray⟩,.string ⟨e.frm.2.toArray⟩,.slice va e.rcs.length vc,.int .u64 e.born,.int .u64 e.nxt,.int .i64 e.tries],.string ⟨tr.1.toArray⟩,.string ⟨tr.2.s.toArray⟩,.int .i64 0]) (by simp [results,Tryz.results113,go_sem,d0]) rfl ⟨_,rfl,HSQ.out⟩
  · have HW : Hid (enSplit s = (En.zero,[],[],2)):=HV.out.trans (if_neg hf)
    have hb : (f == 0) = false:=by simpa using hf
    have S6:=(Sp.pick [_,_,_,_] [3] (by decide) (HS5.out))
    have d0:=S6.cell
    have f0:=S6.free
    have HS6:=Lib.hid (((((((((((S6.set (o:=0) (.int .u64 0)).set (o:=1) (.string ⟨#[]⟩)).set (o:=2) (.int .u64 0)).set (o:=3) (.int .u64 0)).set (o:=4) (.string ⟨#[]⟩)).set (o:=5) (.string ⟨#[]⟩)).set (o:=6) (.slice none 0 0)).set (o:=7) (.int .u64 0)).set (o:=8) (.int .u64 0)).set (o:=9) (.int .i64 0)).drop.tosNil)
    clear HV hf HOK
    go_upto_region 4 with (fail)
    generalize w4.alloc _ = w5 at *
    clear HS5
    go_wp2
    rw [HW.out]
    exact bodyPost_ret (v:=.tuple #[.agg #[.int .u64 0,.string ⟨#[]⟩,.int .u64 0,.int .u64 0,.string ⟨#[]⟩,.string ⟨#[]⟩,.slice none 0 0,.int .u64 0,.int .u64 0,.int .i64 0],.string ⟨#[]⟩,.string ⟨#[]⟩,.int .i64 2]) (by simp [results,Tryz.results113,go_sem,d0]) rfl ⟨.slice none 0 0,rfl,HS6.out⟩
end
end
section
open Go.RowKit Go.Maps
def enSealV (e : En) (body : Bs) (q : Bs × Int) : Bs × Int :=
  if enMay e = true then
    if body.length ≤ 16000 then
      if q.2 = 0 then (textB (headB e) ++ q.1,0) else ([],q.2)
    else ([],5)
  else ([],2)
def enOpenV (O : Bs → Bs → Bs → Bs × Int) (s : Bs) : En × Bs × Int :=
  if (enSplit s).2.2.2 = 0 then
    if (O (nonceE (enSplit s).1.cnt) (enSplit s).2.1 (enSplit s).2.2.1).2 = 0 then
      if (enUnfill (O (nonceE (enSplit s).1.cnt) (enSplit s).2.1 (enSplit s).2.2.1).1).2 = 0 then ((enSplit s).1,(enUnfill (O (nonceE (enSplit s).1.cnt) (enSplit s).2.1 (enSplit s).2.2.1).1).1,0)
      else (En.zero,[],(enUnfill (O (nonceE (enSplit s).1.cnt) (enSplit s).2.1 (enSplit s).2.2.1).1).2)
    else (En.zero,[],(O (nonceE (enSplit s).1.cnt) (enSplit s).2.1 (enSplit s).2.2.1).2)
  else (En.zero,[],(enSplit s).2.2.2)
theorem enSplit_len (s : Bs) : (enSplit s).2.2.1.length ≤ s.length:=by
  unfold enSplit
  dsimp only
  split
  · have:=text_len ⟨s,false⟩ 4000
    exact this.1
  · simp
theorem enSplit_cnt (s : Bs) : (enSplit s).1.cnt < 18446744073709551616:=by
  by_cases h : (enSplit s).2.2.2 = 0
  · have:=(enMay_parts (split_ok h).1).cnt
    omega
  · rw [split_no h]
    decide
section
variable {w0 w : World} {L : List Res} {F0 : List Nat} {v pv : Value} {B B2 : Res}
theorem enSealG (e : En) (key body : Bs) (q : Bs × Int) (E : Env w0) (hf : e.Fit) (T : TosAt w v e.rcs) (S : Sp w0 [] w (B :: L)) (hq : q.1.length ≤ 1000000)
    (HB : enMay e = true → body.length ≤ 16000 → ∀ (w' : World) (L' : List Res),Sp w0 [] w' (B :: L') → Calls Tryz.prog 147 #[pv,.string ⟨key.toArray⟩,.string ⟨(nonceE e.cnt).toArray⟩,.string ⟨(headB e).toArray⟩,.string ⟨(fillB body).toArray⟩] w' fun r w2 => r = .returned (.tuple #[.string ⟨q.1.toArray⟩,.int .i64 q.2]) ∧ Sp w0 [] w2 (B2 :: L')) :
    Calls Tryz.prog 107 #[pv,.string ⟨key.toArray⟩,enAgg e v,.string ⟨body.toArray⟩] w fun r w2 => r = .returned (.tuple #[.string ⟨(enSealV e body q).1.toArray⟩,.int .i64 (enSealV e body q).2]) ∧ Sp w0 [] w2 ((if enMay e = true ∧ body.length ≤ 16000 then B2 else B) :: L):=by
  have HS0:=Lib.hid (S.box (enCells e v) 40)
  have HH:=Lib.hid (Calls.sp (enHead_any e v (w.alloc (.cells (enCells e v) 40)) (E.sp (S.box (enCells e v) 40)) hf (T.ext ((Ext.refl [] w).alloc _))) (S.box (enCells e v) 40))
  have HV : Hid (enSealV e body q = if enMay e = true then (if body.length ≤ 16000 then (if q.2 = 0 then (textB (headB e) ++ q.1,0) else (([] : Bs),q.2)) else ([],(5 : Int))) else ([],(2 : Int))):=rfl
  have HHD : Hid (enHead e = if enMay e then (headB e,0) else ([],2)):=rfl
  have HHB:=Lib.hid HB
  have HLQ:=Lib.hid hq
  have HCN:=Lib.hid hf.cnt
  have HPT:=Lib.hid (@enMay_parts e)
  have HFL : Hid (enFill body = if body.length ≤ 16000 then (fillB body,0) else ([],5)):=rfl
  unfold enCells at HS0 HH
  unfold enAgg at HH ⊢
  generalize hBR : (if enMay e = true ∧ body.length ≤ 16000 then B2 else B) = BR
  have HBR:=Lib.hid hBR
  clear HB S T E hq hBR
  go_enter Tryz.func107,Tryz.ntmps107
  go_upto_region 1 with (fail)
  generalize w.alloc (.cells #[.int .u64 e.id,.string ⟨e.dom.toArray⟩,.int .u64 e.ep,.int .u64 e.cnt,.string ⟨e.frm.1.toArray⟩,.string ⟨e.frm.2.toArray⟩,v,.int .u64 e.born,.int .u64 e.nxt,.int .i64 e.tries] 40) = w1 at *
  generalize w.heap.size = q6 at *
  have c1:=HS0.out.cell
  go_wp2_with fail
  refine HH.out.mono ?_
  rintro r w2 ⟨rfl,S⟩
  have HS2:=Lib.hid S
  have c2:=S.cell
  clear S HS0 c1 HH hf
  cases hm : enMay e with
  | false =>
    have HW : Hid (enSealV e body q = ([],2)):=by unfold Hid; rw [HV.out,if_neg (by simp [hm])]
    have e1 : enHead e = ([],2):=by rw [HHD.out,if_neg (by simp [hm])]
    rw [e1]
    have HBE : Hid (BR = B):=by unfold Hid; rw [← HBR.out,if_neg (by simp [hm])]
    clear HV HHD HHB hm
    go_wp2
    go_ret2
    exact ⟨by rw [HW.out]; rfl,by rw [HBE.out]; exact HS2.out.drop⟩
  | true =>
    have e1 : enHead e = (headB e,0):=by rw [HHD.out,if_pos hm]
    rw [e1]
    have HHL:=Lib.hid (headB_len (HPT.out hm))
    by_cases hb : body.length ≤ 16000
    · have e2 : enFill body = (fillB body,0):=by rw [HFL.out,if_pos hb]
      have HB3:=Lib.hid (HHB.out hm hb)
      have HW : Hid (enSealV e body q = if q.2 = 0 then (textB (headB e) ++ q.1,0) else (([] : Bs),q.2)):=by unfold Hid; rw [HV.out,if_pos hm,if_pos hb]
      have HBE : Hid (BR = B2):=by unfold Hid; rw [← HBR.out,if_pos ⟨hm,hb⟩]
      have HF:=Lib.hid (enFillS body HS2.out)
      rw [e2] at HF
      clear HV HHD HHB hm hb HPT e1 e2 HFL
      generalize headB e = hd at *
      generalize fillB body = fb at *
      go_wp2_with fail
      refine HF.out.mono ?_
      rintro r w3 ⟨rfl,S⟩
      have HS3:=Lib.hid S
      have c3:=S.cell
      clear S HS2 c2 HF
      go_wp2_with fail
      refine (Calls.sp (enNonce_any e.cnt w3 HCN.out) HS3.out).mono ?_
      rintro r w4 ⟨rfl,S⟩
      have HS4:=Lib.hid S
      clear S HS3 c3
      generalize nonceE e.cnt = nn at *
      go_wp2_with fail
      refine (HB3.out _ _ HS4.out.pull1).mono ?_
      rintro r w5 ⟨rfl,S⟩
      have HS5:=Lib.hid S
      clear S HS4 HB3
      obtain ⟨q1,q2⟩:=q
      dsimp only at *
      by_cases hq2 : q2 = 0
      · subst hq2
        have HW2 : Hid (enSealV e body (q1,0) = (textB hd ++ q1,0)):=HW.out
        have hadd:=add_str (textB hd) q1 (by have:=text_le9 (s:=hd) (by have:=HHL.out; omega); have:=HLQ.out; unfold maxLen; omega)
        clear HW
        go_wp2_with fail
        refine (packTextS HS5.out hd (by have:=HHL.out; omega)).mono ?_
        rintro r w6 ⟨rfl,S⟩
        have HS6:=Lib.hid S
        clear S HS5
        go_wp2
        go_ret2
        exact ⟨by rw [HW2.out]; rfl,by rw [HBE.out]; exact HS6.out.pull1.drop⟩
      · have HW2 : Hid (enSealV e body (q1,q2) = ([],q2)):=HW.out.trans (if_neg hq2)
        have hb2 : (q2 == 0) = false:=by simpa using hq2
        clear HW hq2
        go_wp2
        go_ret2
        exact ⟨by rw [HW2.out]; rfl,by rw [HBE.out]; exact HS5.out.pull1.drop⟩
    · have e2 : enFill body = ([],5):=by rw [HFL.out,if_neg hb]
      have HW : Hid (enSealV e body q = ([],5)):=by unfold Hid; rw [HV.out,if_pos hm,if_neg hb]
      have HBE : Hid (BR = B):=by unfold Hid; rw [← HBR.out,if_neg (fun h => hb h.2)]
      have HF:=Lib.hid (enFillS body HS2.out)
      rw [e2] at HF
      clear HV HHD HHB hm hb HPT e1 e2 HFL
      generalize headB e = hd at *
      go_wp2_with fail
      refine HF.out.mono ?_
      rintro r w3 ⟨rfl,S⟩
      have HS3:=Lib.hid S
      clear S HS2 c2 HF
      go_wp2
      go_ret2
      exact ⟨by rw [HW.out]; rfl,by rw [HBE.out]; exact HS3.out.drop⟩
theorem enOpenG (O : Bs → Bs → Bs → Bs × Int) (key s : Bs) (hs : s.length ≤ 1000000) (E : Env w0) (S : Sp w0 [] w (B :: L))
    (HB : ∀ (n d t : Bs) (w' : World) (L' : List Res),n.length = 12 → d.length ≤ 1000000 → t.length ≤ 1000000 → Sp w0 [] w' (B :: L') → Calls Tryz.prog 114 #[pv,.string ⟨key.toArray⟩,.string ⟨n.toArray⟩,.string ⟨d.toArray⟩,.string ⟨t.toArray⟩] w' fun r w2 => r = .returned (.tuple #[.string ⟨(O n d t).1.toArray⟩,.int .i64 (O n d t).2]) ∧ Sp w0 [] w2 (B :: L'))
    (HO : ∀ n d t,(O n d t).1.length ≤ 1000000) :
    Calls Tryz.prog 76 #[pv,.string ⟨key.toArray⟩,.string ⟨s.toArray⟩] w fun r w2 => ∃ v,r = .returned (.tuple #[enAgg (enOpenV O s).1 v,.string ⟨(enOpenV O s).2.1.toArray⟩,.int .i64 (enOpenV O s).2.2]) ∧ Sp w0 [] w2 (tosR v (enOpenV O s).1.rcs :: B :: L):=by
  have HS0:=Lib.hid (S.box #[.int .u64 0,.string ⟨#[]⟩,.int .u64 0,.int .u64 0,.string ⟨#[]⟩,.string ⟨#[]⟩,.slice none 0 0,.int .u64 0,.int .u64 0,.int .i64 0] 40)
  have HL:=Lib.hid hs
  have HE:=Lib.hid E
  have HHB:=Lib.hid HB
  have HHO:=Lib.hid HO
  have HSL:=Lib.hid (enSplit_len s)
  have HDL : Hid ((enSplit s).2.1.length ≤ 1000000):=by
    unfold Hid
    by_cases h : (enSplit s).2.2.2 = 0
    · obtain ⟨h1,h2,_⟩:=split_ok h
      have:=headB_len (enMay_parts h1)
      rw [h2]
      omega
    · rw [split_no h]
      exact Nat.zero_le _
  have HCN:=Lib.hid (enSplit_cnt s)
  have HNO:=Lib.hid (@split_no s)
  have HV : Hid (enOpenV O s = if (enSplit s).2.2.2 = 0 then (if (O (nonceE (enSplit s).1.cnt) (enSplit s).2.1 (enSplit s).2.2.1).2 = 0 then (if (enUnfill (O (nonceE (enSplit s).1.cnt) (enSplit s).2.1 (enSplit s).2.2.1).1).2 = 0 then ((enSplit s).1,(enUnfill (O (nonceE (enSplit s).1.cnt) (enSplit s).2.1 (enSplit s).2.2.1).1).1,0)
      else (En.zero,[],(enUnfill (O (nonceE (enSplit s).1.cnt) (enSplit s).2.1 (enSplit s).2.2.1).1).2)) else (En.zero,[],(O (nonceE (enSplit s).1.cnt) (enSplit s).2.1 (enSplit s).2.2.1).2)) else (En.zero,[],(enSplit s).2.2.2)):=rfl
  clear S hs E HB HO
  go_enter Tryz.func76,Tryz.ntmps76
  go_upto_region 1 with (fail)
  generalize w.alloc (.cells #[.int .u64 0,.string ⟨#[]⟩,.int .u64 0,.int .u64 0,.string ⟨#[]⟩,.string ⟨#[]⟩,.slice none 0 0,.int .u64 0,.int .u64 0,.int .i64 0] 40) = w1 at *
  generalize w.heap.size = q2 at *
  go_wp2_with fail
  refine (enSplitS s HL.out HE.out HS0.out).mono ?_
  rintro r w4 ⟨v,rfl,S⟩
  generalize enSplit s = sp at *
  obtain ⟨e,hd,sl,f⟩:=sp
  dsimp only at *
  obtain ⟨va,vc,rfl⟩:=S.tosAt.form
  unfold enAgg
  have S5:=S.box (enCells e (.slice va e.rcs.length vc)) 40
  unfold enCells at S5
  have HS5:=Lib.hid S5
  clear S S5 HS0
  by_cases hf : f = 0
  · subst hf
    have HV2 : Hid (enOpenV O s = if (O (nonceE e.cnt) hd sl).2 = 0 then (if (enUnfill (O (nonceE e.cnt) hd sl).1).2 = 0 then (e,(enUnfill (O (nonceE e.cnt) hd sl).1).1,0)
      else (En.zero,[],(enUnfill (O (nonceE e.cnt) hd sl).1).2)) else (En.zero,[],(O (nonceE e.cnt) hd sl).2)):=HV.out.trans (if_pos rfl)
    have HNL:=Lib.hid (nonceE_length e.cnt)
    clear HV
    go_upto_region 4 with (fail)
    generalize w4.alloc _ = w5 at *
    generalize w4.heap.size = q8 at *
    have c8:=HS5.out.cell
    go_wp2_with fail
    refine (Calls.sp (enNonce_any e.cnt w5 HCN.out) HS5.out).mono ?_
    rintro r w6 ⟨rfl,S⟩
    have HS6:=Lib.hid ((Sp.pick [_,_,_,_] [3,0,1,2] (by decide) (S)))
    generalize nonceE e.cnt = nn at *
    clear S HS5 c8
    go_wp2_with fail
    refine (HHB.out nn hd sl _ _ HNL.out HDL.out (by have:=HSL.out; have:=HL.out; omega) HS6.out).mono ?_
    rintro r w7 ⟨rfl,S⟩
    have HOL:=Lib.hid (HHO.out nn hd sl)
    generalize O nn hd sl = oo at *
    obtain ⟨o1,o2⟩:=oo
    dsimp only at *
    have HS7:=Lib.hid ((Sp.pick [_,_,_,_] [1,2,3,0] (by decide) (S)))
    clear S HS6
    by_cases ho : o2 = 0
    · subst ho
      have HV3 : Hid (enOpenV O s = if (enUnfill o1).2 = 0 then (e,(enUnfill o1).1,0) else (En.zero,[],(enUnfill o1).2)):=HV2.out.trans (if_pos rfl)
      clear HV2
      go_wp2_with fail
      refine (enUnfillS o1 HOL.out HS7.out).mono ?_
      rintro r w8 ⟨rfl,S⟩
      generalize enUnfill o1 = uu at *
      obtain ⟨u1,u2⟩:=uu
      dsimp only at *
      have HS8:=Lib.hid S
      clear S HS7
      by_cases hu : u2 = 0
      · subst hu
        have HW : Hid (enOpenV O s = (e,u1,0)):=HV3.out.trans (if_pos rfl)
        have SQ:=(Sp.pick [_,_,_,_] [2,0,1,3] (by decide) (HS8.out))
        have d0:=SQ.cell
        have f0:=SQ.free
        have c8:=HS8.out.cell
        have HSQ:=Lib.hid ((Sp.pick [_,_,_,_] [2,3] (by decide) (((((((((((SQ.set (o:=0) (.int .u64 e.id)).set (o:=1) (.string ⟨e.dom.toArray⟩)).set (o:=2) (.int .u64 e.ep)).set (o:=3) (.int .u64 e.cnt)).set (o:=4) (.string ⟨e.frm.1.toArray⟩)).set (o:=5) (.string ⟨e.frm.2.toArray⟩)).set (o:=6) (.slice va e.rcs.length vc)).set (o:=7) (.int .u64 e.born)).set (o:=8) (.int .u64 e.nxt)).set (o:=9) (.int .i64 e.tries)))))
        clear SQ HV3 HS8
        go_wp2
        rw [HW.out]
        exact bodyPost_ret (v:=.tuple #[.agg #[.int .u64 e.id,.string ⟨e.dom.toArray⟩,.int .u64 e.ep,.int .u64 e.cnt,.string ⟨e.frm.1.toArray⟩,.string ⟨e.frm.2.toArray⟩,.slice va e.rcs.length vc,.int .u64 e.born,.int .u64 e.nxt,.int .i64 e.tries],.string ⟨u1.toArray⟩,.int .i64 0]) (by simp [results,Tryz.results76,go_sem,d0]) rfl ⟨_,rfl,HSQ.out⟩
      · have HW : Hid (enOpenV O s = (En.zero,[],u2)):=HV3.out.trans (if_neg hu)
        have hb : (u2 == 0) = false:=by simpa using hu
        have S6:=(Sp.pick [_,_,_,_] [2,3] (by decide) (HS8.out))
        have d0:=S6.cell
        have f0:=S6.free
        have HSQ:=Lib.hid (((((((((((S6.set (o:=0) (.int .u64 0)).set (o:=1) (.string ⟨#[]⟩)).set (o:=2) (.int .u64 0)).set (o:=3) (.int .u64 0)).set (o:=4) (.string ⟨#[]⟩)).set (o:=5) (.string ⟨#[]⟩)).set (o:=6) (.slice none 0 0)).set (o:=7) (.int .u64 0)).set (o:=8) (.int .u64 0)).set (o:=9) (.int .i64 0)).drop.tosNil)
        clear S6 HV3 HS8 hu
        go_wp2
        rw [HW.out]
        exact bodyPost_ret (v:=.tuple #[.agg #[.int .u64 0,.string ⟨#[]⟩,.int .u64 0,.int .u64 0,.string ⟨#[]⟩,.string ⟨#[]⟩,.slice none 0 0,.int .u64 0,.int .u64 0,.int .i64 0],.string ⟨#[]⟩,.int .i64 u2]) (by simp [results,Tryz.results76,go_sem,d0]) rfl ⟨.slice none 0 0,rfl,HSQ.out⟩
    · have HW : Hid (enOpenV O s = (En.zero,[],o2)):=HV2.out.trans (if_neg ho)
      have hb : (o2 == 0) = false:=by simpa using ho
      have S6:=(Sp.pick [_,_,_,_] [2,3] (by decide) (HS7.out))
      have d0:=S6.cell
      have f0:=S6.free
      have HSQ:=Lib.hid (((((((((((S6.set (o:=0) (.int .u64 0)).set (o:=1) (.string ⟨#[]⟩)).set (o:=2) (.int .u64 0)).set (o:=3) (.int .u64 0)).set (o:=4) (.string ⟨#[]⟩)).set (o:=5) (.string ⟨#[]⟩)).set (o:=6) (.slice none 0 0)).set (o:=7) (.int .u64 0)).set (o:=8) (.int .u64 0)).set (o:=9) (.int .i64 0)).drop.tosNil)
      clear S6 HV2 HS7 ho
      go_wp2
      rw [HW.out]
      exact bodyPost_ret (v:=.tuple #[.agg #[.int .u64 0,.string ⟨#[]⟩,.int .u64 0,.int .u64 0,.string ⟨#[]⟩,.string ⟨#[]⟩,.slice none 0 0,.int .u64 0,.int .u64 0,.int .i64 0],.string ⟨#[]⟩,.int .i64 o2]) (by simp [results,Tryz.results76,go_sem,d0]) rfl ⟨.slice none 0 0,rfl,HSQ.out⟩
  · have HW : Hid (enOpenV O s = (En.zero,[],f)):=HV.out.trans (if_neg hf)
    have hb : (f == 0) = false:=by simpa using hf
    have S6:=(Sp.pick [_,_,_,_] [2,3] (by decide) (HS5.out))
    have d0:=S6.cell
    have f0:=S6.free
    have HSQ:=Lib.hid (((((((((((S6.set (o:=0) (.int .u64 0)).set (o:=1) (.string ⟨#[]⟩)).set (o:=2) (.int .u64 0)).set (o:=3) (.int .u64 0)).set (o:=4) (.string ⟨#[]⟩)).set (o:=5) (.string ⟨#[]⟩)).set (o:=6) (.slice none 0 0)).set (o:=7) (.int .u64 0)).set (o:=8) (.int .u64 0)).set (o:=9) (.int .i64 0)).drop.tosNil)
    clear S6 HV hf
    go_upto_region 3 with (fail)
    generalize w4.alloc _ = w5 at *
    clear HS5
    go_wp2
    rw [HW.out]
    exact bodyPost_ret (v:=.tuple #[.agg #[.int .u64 0,.string ⟨#[]⟩,.int .u64 0,.int .u64 0,.string ⟨#[]⟩,.string ⟨#[]⟩,.slice none 0 0,.int .u64 0,.int .u64 0,.int .i64 0],.string ⟨#[]⟩,.int .i64 f]) (by simp [results,Tryz.results76,go_sem,d0]) rfl ⟨.slice none 0 0,rfl,HSQ.out⟩
end
end
section
open Go.RowKit Go.Maps
def TabOk (M : Mp Sealed3) : Prop:=M.length ≤ 100000 ∧ ∀ k x,M.get k = some x → x.2.1.length ≤ 1000000 ∧ x.2.2.length ≤ 1000000
theorem bxSeal_len {U : Bs → Bs → Bs} {M : Mp Sealed3} {D k n d t : Bs} (hM : TabOk M) (hD : D.length ≤ 1000000) : (bxSeal U M D k n d t).1.1.length ≤ 1000000:=by
  unfold bxSeal
  split
  · cases hg : M.get (U k n) with
    | none =>
      dsimp only
      split
      · exact Nat.zero_le _
      · dsimp only
        rw [List.length_take]
        omega
    | some x =>
      dsimp only
      split
      · exact (hM.2 _ _ hg).2
      · exact Nat.zero_le _
  · exact Nat.zero_le _
theorem bxOpen_len {U : Bs → Bs → Bs} {M : Mp Sealed3} {k n d t : Bs} (hM : TabOk M) : (bxOpen U M k n d t).1.length ≤ 1000000:=by
  unfold bxOpen
  split
  · cases hg : M.get (U k n) with
    | none => exact Nat.zero_le _
    | some x =>
      dsimp only
      split
      · exact (hM.2 _ _ hg).1
      · exact Nat.zero_le _
  · exact Nat.zero_le _
end
section
open Go.RowKit Go.Maps
inductive Bx where
  | real
  | ideal (D : Bs) (T : Mp Sealed3)
def Bx.seal (B : Bx) (key nonce data text : Bs) : (Bs × Int) × Bx :=
  match B with
  | .real => (rlSeal key nonce data text,.real)
  | .ideal D T => ((bxSeal uB T D key nonce data text).1,.ideal (bxSeal uB T D key nonce data text).2.1 (bxSeal uB T D key nonce data text).2.2)
def Bx.open (B : Bx) (key nonce data bytes : Bs) : Bs × Int :=
  match B with
  | .real => rlOpen key nonce data bytes
  | .ideal _ T => bxOpen uB T key nonce data bytes
structure Row3 where
  dom : Bs
  ep : Nat
  cnt : Nat
deriving DecidableEq
abbrev Row3.agg (r : Row3) : Value:=.agg #[.string ⟨r.dom.toArray⟩,.int .u64 r.ep,.int .u64 r.cnt]
def slRow (id : Nat) (r : Row3) : Bs:=textB (numB id ++ textB r.dom ++ numB r.ep ++ numB r.cnt)
def slRead (r : Rd) : Nat × Row3 × Bool × Rd :=
  let a:=r.text 400
  let i:=Rd.num ⟨a.1,false⟩ 1099511627776
  let t:=i.2.text 255
  let e:=t.2.num 1099511627776
  let c:=e.2.num 1099511627776
  (i.1,⟨t.1,e.1,c.1⟩,decide (c.2.done = 0),a.2)
def indexB : Bs:=[105,110,100,101,120]
def queueB : Bs:=[113,47]
def asideB : Bs:=[98,97,100,47]
def fileB (id ep cnt : Nat) : Bs:=[113,47] ++ Lib.decDigits id ++ [46] ++ Lib.decDigits ep ++ [46] ++ Lib.decDigits cnt
structure Sq where
  D : Dk
  B : Bx
  led : Mp Cnt
  ring : Mp RSt
  rows : Mn Row3
  last : Nat
structure Sc where
  master : Bs
  step : Nat
  most : Nat
def slKnows (M : Mn Row3) (id : Nat) (r : Row3) : Mn Row3:=if r.ep = 0 then M.del id else M.put id r
def rowAt (M : Mn Row3) (id : Nat) : Row3:=(M.get id).getD ⟨[],0,0⟩
def slFile (M : Mn Row3) (id : Nat) : Bs:=fileB id (rowAt M id).ep (rowAt M id).cnt
def Sq.know (Q : Sq) (id : Nat) (r : Row3) : Sq:={ Q with last:=max Q.last id,rows:=slKnows Q.rows id r }
def ringLive (M : Mp RSt) (d : Bs) (n : Nat) : Bool:=decide (0 < n) && (decide (n = (ringState M d).now) || decide (n = (ringState M d).old))
def slOpened (B : Bx) (key text : Bs) : En × Bs × Int:=enOpenV (B.open key) text
def slRight (ring : Mp RSt) (id : Nat) (r : Row3) (q : En × Bs × Int) : Bool:=decide (q.2.2 = 0) && decide (q.1.id = id) && decide (q.1.dom = r.dom) && decide (q.1.ep = r.ep) && decide (q.1.cnt = r.cnt) && ringLive ring r.dom r.ep
def Sq.open (Q : Sq) (master : Bs) (id : Nat) : En × Bs × Bool :=
  if Q.D.now.has (slFile Q.rows id) = true then
    if (rowAt Q.rows id).dom.length ≤ 255 then
      if slRight Q.ring id (rowAt Q.rows id) (slOpened Q.B (keyB master (rowAt Q.rows id).dom (rowAt Q.rows id).ep) ((Q.D.now.get (slFile Q.rows id)).getD [])) = true then
        ((slOpened Q.B (keyB master (rowAt Q.rows id).dom (rowAt Q.rows id).ep) ((Q.D.now.get (slFile Q.rows id)).getD [])).1,(slOpened Q.B (keyB master (rowAt Q.rows id).dom (rowAt Q.rows id).ep) ((Q.D.now.get (slFile Q.rows id)).getD [])).2.1,true)
      else (En.zero,[],false)
    else (En.zero,[],false)
  else (En.zero,[],false)
def slTrim (f : Bs) : Bs:=if queueB.isPrefixOf f then f.drop 2 else f
def slAway (D : Dk) (f : Bs) : Dk × Int:=D.rename f (asideB ++ slTrim f)
def Sq.drop (Q : Sq) (id : Nat) : Sq × Int :=
  if (slAway Q.D (slFile Q.rows id)).2 ≠ 0 ∧ (slAway Q.D (slFile Q.rows id)).2 ≠ 10 then ({ Q with D:=(slAway Q.D (slFile Q.rows id)).1 },(slAway Q.D (slFile Q.rows id)).2)
  else if ((slAway Q.D (slFile Q.rows id)).1.append indexB (slRow id ⟨(rowAt Q.rows id).dom,0,0⟩)).2 ≠ 0 then
    ({ Q with D:=((slAway Q.D (slFile Q.rows id)).1.append indexB (slRow id ⟨(rowAt Q.rows id).dom,0,0⟩)).1 },((slAway Q.D (slFile Q.rows id)).1.append indexB (slRow id ⟨(rowAt Q.rows id).dom,0,0⟩)).2)
  else (({ Q with D:=((slAway Q.D (slFile Q.rows id)).1.append indexB (slRow id ⟨(rowAt Q.rows id).dom,0,0⟩)).1 } : Sq).know id ⟨(rowAt Q.rows id).dom,0,0⟩,0)
def slScan : Nat → Bs → List (Nat × Row3) × Bs
  | 0,s => ([],s)
  | f + 1,s => if (slRead ⟨s,false⟩).2.2.1 then (((slRead ⟨s,false⟩).1,(slRead ⟨s,false⟩).2.1) :: (slScan f (slRead ⟨s,false⟩).2.2.2.s).1,(slScan f (slRead ⟨s,false⟩).2.2.2.s).2) else ([],s)
def slRowsOf (s : Bs) : List (Nat × Row3):=(slScan (s.length + 1) s).1
def slRestOf (s : Bs) : Bs:=(slScan (s.length + 1) s).2
def slLearn (l : List (Nat × Row3)) : Mn Row3 × Nat:=l.foldl (fun q p => (slKnows q.1 p.1 p.2,max q.2 p.1)) ([],0)
def indexOf (D : Dk) : Bs:=(D.now.get indexB).getD []
def slIndex (D : Dk) : Dk × Int :=
  if D.now.has indexB = true ∧ slRestOf (indexOf D) = [] then (D,0)
  else if (D.write indexB ((indexOf D).take ((indexOf D).length - (slRestOf (indexOf D)).length))).2 ≠ 0 then D.write indexB ((indexOf D).take ((indexOf D).length - (slRestOf (indexOf D)).length))
  else (D.write indexB ((indexOf D).take ((indexOf D).length - (slRestOf (indexOf D)).length))).1.sync
structure Rec where
  Q : Sq
  files : Mp Bool
  done : Bool
def slRec1 (master : Bs) : List Nat → Rec → Rec × Int
  | [],r => (r,0)
  | id :: l,r =>
    if (r.Q.open master id).2.2 = true then slRec1 master l { r with files:=r.files.put (slFile r.Q.rows id) true }
    else if (r.Q.drop id).2 ≠ 0 then ({ r with Q:=(r.Q.drop id).1 },(r.Q.drop id).2)
    else slRec1 master l { r with Q:=(r.Q.drop id).1,done:=true }
def slRec2 (files : Mp Bool) : List Bs → Dk → Bool → Dk × Bool × Int
  | [],D,d => (D,d,0)
  | f :: l,D,d => if files.get f = some true then slRec2 files l D d else if (slAway D f).2 ≠ 0 then ((slAway D f).1,d,(slAway D f).2) else slRec2 files l (slAway D f).1 true
def Sq.ids (Q : Sq) : List Nat:=Q.rows.map (·.1)
def Sq.recover (Q : Sq) (master : Bs) : Sq × Int :=
  let a:=slRec1 master Q.ids ⟨Q,[],false⟩
  if a.2 ≠ 0 then (a.1.Q,a.2)
  else
    let b:=slRec2 a.1.files (a.1.Q.D.now.names queueB) a.1.Q.D a.1.done
    if b.2.2 ≠ 0 then ({ a.1.Q with D:=b.1 },b.2.2)
    else if b.2.1 = false then ({ a.1.Q with D:=b.1 },0)
    else ({ a.1.Q with D:=b.1.sync.1 },b.1.sync.2)
def slBegin (D : Dk) (B : Bx) (led : Mp Cnt) (ring : Mp RSt) : Sq:=⟨D,B,led,ring,(slLearn (slRowsOf (indexOf D))).1,(slLearn (slRowsOf (indexOf D))).2⟩
def spoolOpen (c : Sc) (D : Dk) (B : Bx) : Dk × Option Sq × Int :=
  if c.step < 1 ∨ 1000 < c.step ∨ 1099511627776 < c.most then (D,none,1)
  else
    let a:=ledOpen D
    match a.2.1 with
    | none => (a.1,none,a.2.2)
    | some led =>
      let b:=ringOpen a.1
      match b.2.1 with
      | none => (b.1,none,b.2.2)
      | some ring =>
        let i:=slIndex b.1
        if i.2 ≠ 0 then (i.1,none,i.2)
        else
          let r:=({ slBegin b.1 B led ring with D:=i.1 } : Sq).recover c.master
          if r.2 ≠ 0 then (r.1.D,none,r.2) else (r.1.D,some r.1,0)
def Sq.lay (Q : Sq) (id : Nat) (r : Row3) : Sq × Int :=
  if (Q.D.append indexB (slRow id r)).2 ≠ 0 then ({ Q with D:=(Q.D.append indexB (slRow id r)).1 },(Q.D.append indexB (slRow id r)).2)
  else if (Q.D.append indexB (slRow id r)).1.sync.2 ≠ 0 then ({ Q with D:=(Q.D.append indexB (slRow id r)).1.sync.1 },(Q.D.append indexB (slRow id r)).1.sync.2)
  else (({ Q with D:=(Q.D.append indexB (slRow id r)).1.sync.1 } : Sq).know id r,0)
def slSeal (B : Bx) (key : Bs) (e : En) (body : Bs) : (Bs × Int) × Bx :=
  (enSealV e body (B.seal key (nonceE e.cnt) (headB e) (fillB body)).1,if enMay e = true ∧ body.length ≤ 16000 then (B.seal key (nonceE e.cnt) (headB e) (fillB body)).2 else B)
def Sq.epoch (Q : Sq) (d : Bs) : Nat:=(ringState Q.ring d).now
def Sq.next (Q : Sq) (c : Sc) (d : Bs) : Dk × Mp Cnt × Bs × Int:=ledNextN Q.D Q.led c.step c.most (ringKey d (Q.epoch d))
def Sq.entry (Q : Sq) (c : Sc) (e : En) : En:={ e with ep:=Q.epoch e.dom,cnt:=(lgOf (Q.next c e.dom).2.1 (ringKey e.dom (Q.epoch e.dom))).c - 1 }
def Sq.sealed (Q : Sq) (c : Sc) (e : En) (body : Bs) : Sq × Bs × Int :=
  if (Q.next c e.dom).2.2.2 ≠ 0 then ({ Q with D:=(Q.next c e.dom).1,led:=(Q.next c e.dom).2.1 },[],(Q.next c e.dom).2.2.2)
  else if 255 < e.dom.length then ({ Q with D:=(Q.next c e.dom).1,led:=(Q.next c e.dom).2.1 },[],5)
  else ({ Q with D:=(Q.next c e.dom).1,led:=(Q.next c e.dom).2.1,B:=(slSeal Q.B (keyB c.master e.dom (Q.epoch e.dom)) (Q.entry c e) body).2 },(slSeal Q.B (keyB c.master e.dom (Q.epoch e.dom)) (Q.entry c e) body).1.1,(slSeal Q.B (keyB c.master e.dom (Q.epoch e.dom)) (Q.entry c e) body).1.2)
def Sq.wrote (Q : Sq) (file : Bs) (text : Bs) (id : Nat) (r : Row3) (old : Option Bs) : Sq × Int :=
  if (Q.D.write file text).2 ≠ 0 then ({ Q with D:=(Q.D.write file text).1 },(Q.D.write file text).2)
  else
    let l:=({ Q with D:=(Q.D.write file text).1 } : Sq).lay id r
    if l.2 ≠ 0 then ({ l.1 with D:=(l.1.D.remove file).1 },l.2)
    else match old with
      | none => (l.1,0)
      | some o => if o = file then (l.1,0) else ({ l.1 with D:=(l.1.D.remove o).1 },(l.1.D.remove o).2)
def Sq.write (Q : Sq) (c : Sc) (e : En) (body : Bs) : Sq × Int :=
  let s:=Q.sealed c e body
  if s.2.2 ≠ 0 then (s.1,s.2.2)
  else s.1.wrote (fileB e.id (Q.entry c e).ep (Q.entry c e).cnt) s.2.1 e.id ⟨e.dom,(Q.entry c e).ep,(Q.entry c e).cnt⟩ (if Q.rows.has e.id = true then some (slFile Q.rows e.id) else none)
def slMay (e : En) (id : Nat) : Bool:=enMay { e with id:=id,ep:=1,cnt:=0 }
def Sq.put (Q : Sq) (c : Sc) (e : En) (body : Bs) : Sq × Nat × Int :=
  if slMay e 1 = false then (Q,0,2)
  else if 16000 < body.length then (Q,0,5)
  else if Q.last = 1099511627776 then (Q,0,4)
  else
    let w:=Q.write c { e with id:=Q.last + 1 } body
    if w.2 ≠ 0 then (w.1,0,w.2) else (w.1,Q.last + 1,0)
def Sq.load (Q : Sq) (master : Bs) (id : Nat) : Sq × En × Bs × Int :=
  if Q.rows.has id = false then (Q,En.zero,[],10)
  else if (Q.open master id).2.2 = true then (Q,(Q.open master id).1,(Q.open master id).2.1,0)
  else if (Q.drop id).2 ≠ 0 then ((Q.drop id).1,En.zero,[],(Q.drop id).2)
  else if (Q.drop id).1.D.sync.2 ≠ 0 then ({ (Q.drop id).1 with D:=(Q.drop id).1.D.sync.1 },En.zero,[],(Q.drop id).1.D.sync.2)
  else ({ (Q.drop id).1 with D:=(Q.drop id).1.D.sync.1 },En.zero,[],20)
def Sq.update (Q : Sq) (c : Sc) (e : En) : Sq × Int :=
  let l:=Q.load c.master e.id
  if l.2.2.2 ≠ 0 then (l.1,l.2.2.2)
  else if slMay e e.id = false then (l.1,2)
  else if e.dom ≠ l.2.1.dom then (l.1,1)
  else l.1.write c e l.2.2.1
def Sq.remove (Q : Sq) (id : Nat) : Sq × Int :=
  if Q.rows.has id = false then (Q,10)
  else
    let l:=Q.lay id ⟨(rowAt Q.rows id).dom,0,0⟩
    if l.2 ≠ 0 then l
    else ({ l.1 with D:=(l.1.D.remove (slFile Q.rows id)).1 },if (l.1.D.remove (slFile Q.rows id)).2 = 10 then 0 else (l.1.D.remove (slFile Q.rows id)).2)
def Sq.begin (Q : Sq) (d : Bs) : Sq × Int:=({ Q with D:=(ringBegin Q.D Q.ring d).1,ring:=(ringBegin Q.D Q.ring d).2.1 },(ringBegin Q.D Q.ring d).2.2.2)
def slElder (M : Mn Row3) (d : Bs) (old : Nat) : List Nat → Option Nat
  | [] => none
  | id :: l => if (rowAt M id).dom = d ∧ (rowAt M id).ep = old then some id else slElder M d old l
def Sq.step (Q : Sq) (c : Sc) (d : Bs) : Sq × Bool × Int :=
  if (ringState Q.ring d).old = 0 then (Q,false,10)
  else match slElder Q.rows d (ringState Q.ring d).old Q.ids with
    | some id =>
      let l:=Q.load c.master id
      if l.2.2.2 = 0 then ((l.1.write c l.2.1 l.2.2.1).1,false,(l.1.write c l.2.1 l.2.2.1).2)
      else if l.2.2.2 = 20 then (l.1,false,0)
      else (l.1,false,l.2.2.2)
    | none =>
      let r:=ringEnd Q.D Q.ring d
      ({ Q with D:=r.1,ring:=r.2.1 },decide (r.2.2 = 0),r.2.2)
end
end Go.Proofs.YtangbdahnmomlaaGreatDoor
