/- spool: Ids, Last, Bad, State, may. Conditions: the lengths fit; what Go's variables hold. spool: write. Conditions: the lengths fit; what Go's variables hold. -/
import Derived.Test.YtangbdahnmomlaaGreatDoorBu20
import Derived.Test.YtangbdahnmomlaaGreatDoorBu31
import Derived.Test.YtangbdahnmomlaaGreatDoorBu37
set_option linter.unnecessarySimpa false
set_option linter.unusedSimpArgs false
set_option linter.unusedVariables false
set_option maxHeartbeats 4000000
set_option maxRecDepth 1000000
namespace Go.Proofs.YtangbdahnmomlaaGreatDoor
section
open Go.RowKit Go.Maps Go.Shelf
section
variable {w0 w : World} {L : List Res} {P : SlPt} {c : Sc} {Q : Sq}
theorem slLastS (S : Sp w0 [] w (slPs P c Q L)) : Calls Tryz.prog 20 #[.pointer (some ⟨P.s,0,none⟩)] w fun e w2 => e = .returned (.int .u64 Q.last) ∧ Sp w0 [] w2 (slPs P c Q L):=by
  have c0:=S.cell
  unfold slCells at c0
  have HS:=Lib.hid S
  clear S
  go_enter Tryz.func20,Tryz.ntmps20
  go_wp2_with fail
  go_ret
  exact ⟨rfl,HS.out⟩
theorem slBadS (hl : Q.D.now.length < 1000000000000) (S : Sp w0 [] w (slPs P c Q L)) : Calls Tryz.prog 17 #[.pointer (some ⟨P.s,0,none⟩)] w fun e w2 => ∃ v,e = .returned v ∧ Sp w0 [] w2 (textsR v (Q.D.now.names asideB) :: slPs P c Q L):=by
  have c0:=S.cell
  unfold slCells at c0
  unfold slPs at S ⊢
  have HL:=Lib.hid (listS asideB ((Sp.pick [_,_,_] [2,0,1] (by decide) (S))) hl)
  clear S hl
  go_enter Tryz.func17,Tryz.ntmps17
  go_wp2_with fail
  refine HL.out.mono ?_
  rintro e w2 ⟨v,rfl,S⟩
  have HS:=Lib.hid ((Sp.pick [_,_,_,_] [0,2,3,1] (by decide) (S)))
  obtain ⟨va,vc,rfl⟩:=S.textSlice
  clear S HL
  go_wp2_with fail
  go_ret
  exact ⟨_,rfl,HS.out⟩
theorem slStateS (x : Bs) (hx : x.length ≤ maxLen) (S : Sp w0 [] w (slPs P c Q L)) : Calls Tryz.prog 16 #[.pointer (some ⟨P.s,0,none⟩),.string ⟨x.toArray⟩] w fun e w2 => e = .returned (ringState Q.ring x).agg ∧ Sp w0 [] w2 (slPs P c Q L):=by
  have S1:=S.box #[.int .u64 0,.int .u64 0] 53
  have c0:=S1.pull1.cell
  unfold slCells at c0
  unfold slPs at S1 ⊢
  have HR:=Lib.hid (ringStateS x ((Sp.pick [_,_,_,_,_,_,_] [6,0,1,2,3,4,5] (by decide) (S1))) hx)
  clear S S1 hx
  generalize ringState Q.ring x = s at *
  obtain ⟨n,o⟩:=s
  unfold RSt.agg at *
  dsimp only at *
  go_enter Tryz.func16,Tryz.ntmps16
  go_upto_region 1 with (fail)
  generalize w.alloc _ = w1 at *
  generalize w.heap.size = g at *
  go_wp2_with fail
  refine HR.out.mono ?_
  rintro e w2 ⟨rfl,S⟩
  have S2:=(Sp.pick [_,_,_,_,_,_,_] [1,2,3,4,5,6,0] (by decide) (S))
  have c2:=S2.cell
  have f2:=S2.free
  have HS:=Lib.hid ((S2.set (o:=0) (.int .u64 n)).set (o:=1) (.int .u64 o))
  clear S S2 HR c0
  go_wp2
  have c3:=HS.out.cell
  exact bodyPost_ret (v:=.agg #[.int .u64 n,.int .u64 o]) (by simp [results,Tryz.results16,go_sem,c3]) rfl ⟨rfl,(Sp.pick [_,_,_,_,_,_,_] [1,2,3,4,5,6] (by decide) (HS.out))⟩
theorem slIdsS (hM : Q.rows.length ≤ 1000000) (S : Sp w0 [] w (slPs P c Q L)) : Calls Tryz.prog 30 #[.pointer (some ⟨P.s,0,none⟩)] w fun e w2 => ∃ v,e = .returned v ∧ Sp w0 [] w2 (numsR v Q.ids :: slPs P c Q L):=by
  have HA:=Lib.hid (allS P.s S)
  have HM:=Lib.hid hM
  clear S hM
  go_enter Tryz.func30,Tryz.ntmps30
  go_wp2_with fail
  refine HA.out.mono ?_
  rintro e w2 ⟨g,rfl,S⟩
  have HC:=Lib.hid (collectS (F0:=[]) (w:=w2) (w0:=w0) (L:=[]) 71 #[.pointer (some ⟨g,0,none⟩)] (enters_of Tryz.func71 (by kernel_rfl) rfl)
    (K0:=boxR g #[.pointer (some ⟨P.s,0,none⟩)] 26 :: slPs P c Q L) (Y:=fun xs => xs <+: Q.ids) (T:=fun xs => xs = Q.ids) (fun xs h => Nat.le_trans h.length_le (by unfold Sq.ids; rw [List.length_map]; exact HM.out))
    (fun A => allIter P.s g (slCells P c.master Q.last) rfl HM.out Q.ids rfl A _ (A [] ++ (diskR P.d Q.D :: bxR P.b Q.B :: ledR P.l P.d c.step c.most Q.led :: ringR P.r P.d Q.ring :: (L ++ []))) (by
      refine (List.perm_middle (l₁:=A [])).trans (List.Perm.cons _ ?_)
      refine (List.perm_middle (l₁:=A [])).trans (List.Perm.cons _ ?_)
      exact (List.perm_middle (l₁:=A [])))) (by rw [List.append_nil]; exact S))
  clear S HA
  go_wp2_with fail
  refine HC.out.mono ?_
  rintro e w3 ⟨v,xs,rfl,hx,S⟩
  subst hx
  rw [List.append_nil] at S
  have HS:=Lib.hid ((Sp.pick [_,_] [0] (by decide) (S)))
  rcases S.rowForm with ⟨rfl,h0⟩ | ⟨g0,cap0,rfl⟩
  all_goals
    clear S HC
    go_wp2_with fail
    go_ret
    exact ⟨_,rfl,HS.out⟩
end
section
variable {w0 w : World} {L : List Res} {v : Value}
theorem may_fit {e : En} (h : e.Fit) {id : Nat} (hi : id < 18446744073709551616) : ({ e with id:=id,ep:=1,cnt:=0 } : En).Fit:={ h with id:=hi,ep:=(show (1 : Nat) < 18446744073709551616 by decide),cnt:=(show (0 : Nat) < 18446744073709551616 by decide) }
theorem slMayS (e : En) (id : Nat) (hi : id < 18446744073709551616) (E : Env w) (hf : e.Fit) (T : TosAt w v e.rcs) (S : Sp w0 [] w L) :
    Calls Tryz.prog 38 #[enAgg e v,.int .u64 id] w fun r w2 => r = .returned (.bool (slMay e id)) ∧ Sp w0 [] w2 L:=by
  obtain ⟨va,vc,rfl⟩:=T.form
  have HM:=Lib.hid (fun (w' : World) (hx : Ext [] w w') => enMay_any { e with id:=id,ep:=1,cnt:=0 } (.slice va e.rcs.length vc) w' (E.ext hx) (may_fit hf hi) (T.ext hx))
  have HV : Hid (slMay e id = enMay { e with id:=id,ep:=1,cnt:=0 }):=rfl
  have HS:=Lib.hid S
  clear S E hf T hi
  obtain ⟨xi,xd,xe,xc,xf,xr,xb,xn,xt⟩:=e
  unfold enAgg at *
  dsimp only at *
  rw [show ((1 : Nat) : Int) = 1 from rfl,show ((0 : Nat) : Int) = 0 from rfl] at HM
  have S2:=(Sp.nil w []).box #[.int .u64 id,.string ⟨xd.toArray⟩,.int .u64 1,.int .u64 0,.string ⟨xf.1.toArray⟩,.string ⟨xf.2.toArray⟩,.slice va xr.length vc,.int .u64 xb,.int .u64 xn,.int .i64 xt] 40
  have HX:=Lib.hid S2.ext
  clear S2
  generalize enMay ⟨id,xd,1,0,xf,xr,xb,xn,xt⟩ = b at *
  go_enter Tryz.func38,Tryz.ntmps38
  go_wp2_with fail
  refine (HM.out _ HX.out).mono ?_
  rintro r w2 ⟨rfl,hx⟩
  have HZ:=Lib.hid ((HS.out.ext0 HX.out).ext0 hx)
  clear HX HS hx
  go_wp2
  go_ret
  exact ⟨by rw [HV.out]; rfl,HZ.out⟩
end
end
section
open Go.RowKit Go.Maps Go.Shelf
theorem write_eq (Q : Sq) (c : Sc) (e : En) (body : Bs) : Q.write c e body = if (Q.sealed c e body).2.2 ≠ 0 then ((Q.sealed c e body).1,(Q.sealed c e body).2.2)
    else (Q.sealed c e body).1.wrote (fileB e.id (Q.entry c e).ep (Q.entry c e).cnt) (Q.sealed c e body).2.1 e.id ⟨e.dom,(Q.entry c e).ep,(Q.entry c e).cnt⟩ (if Q.rows.has e.id = true then some (slFile Q.rows e.id) else none):=rfl
theorem wrote_eq (Q : Sq) (file text : Bs) (id : Nat) (r : Row3) (old : Option Bs) : Q.wrote file text id r old =
    if (Q.D.write file text).2 ≠ 0 then ({ Q with D:=(Q.D.write file text).1 },(Q.D.write file text).2)
    else if (({ Q with D:=(Q.D.write file text).1 } : Sq).lay id r).2 ≠ 0 then ({ (({ Q with D:=(Q.D.write file text).1 } : Sq).lay id r).1 with D:=((({ Q with D:=(Q.D.write file text).1 } : Sq).lay id r).1.D.remove file).1 },(({ Q with D:=(Q.D.write file text).1 } : Sq).lay id r).2)
    else match old with
      | none => ((({ Q with D:=(Q.D.write file text).1 } : Sq).lay id r).1,0)
      | some o => if o = file then ((({ Q with D:=(Q.D.write file text).1 } : Sq).lay id r).1,0) else ({ (({ Q with D:=(Q.D.write file text).1 } : Sq).lay id r).1 with D:=((({ Q with D:=(Q.D.write file text).1 } : Sq).lay id r).1.D.remove o).1 },((({ Q with D:=(Q.D.write file text).1 } : Sq).lay id r).1.D.remove o).2):=rfl
theorem fileB_len (id n o : Nat) (h1 : id ≤ 1099511627776) (h2 : n ≤ 1099511627776) (h3 : o ≤ 1099511627776) : (fileB id n o).length ≤ 4000:=by
  have a1:=dec_len9 id (by omega)
  have a2:=dec_len9 n (by omega)
  have a3:=dec_len9 o (by omega)
  unfold fileB
  simp only [List.length_append,List.length_cons,List.length_nil]
  omega
section
variable {w0 w : World} {L : List Res} {P : SlPt} {c : Sc} {Q : Sq} {v : Value}
theorem slWriteS (e : En) (body : Bs) (n : Nat) (hid : e.id ≤ 1099511627776) (hd : e.dom.length ≤ 255) (hf : e.Fit) (h : SlOk c n Q) (hn : n ≤ 970000) (E : Env w0) (HT : ∀ (w' : World) (X : List Res),Sp w0 [] w' (X ++ L) → TosAt w' v e.rcs) (S : Sp w0 [] w (slPs P c Q L)) :
    Calls Tryz.prog 39 #[.pointer (some ⟨P.s,0,none⟩),enAgg e v,.string ⟨body.toArray⟩] w fun r w2 => r = .returned (.int .i64 (Q.write c e body).2) ∧ Sp w0 [] w2 (slPs P c (Q.write c e body).1 L):=by
  have HV : Hid (Q.write c e body = _):=Lib.hid (write_eq Q c e body)
  have HSL:=Lib.hid (fun (w' : World) (q : Nat) (S' : Sp w0 [] w' (boxR q (enCells e v) 40 :: slPs P c Q L)) => slSealedS e body n hd hf h (by omega) E HT S')
  have HFI:=Lib.hid (fun (w' : World) (K' : List Res) (S' : Sp w0 [] w' (slPs P c Q K')) => slFileS e.id (by omega) h.fit E S')
  obtain ⟨hs1,hs2,hs3⟩:=h.sealed e body
  have hen:=h.entry e
  have hfl:=fileB_len e.id (Q.entry c e).ep (Q.entry c e).cnt hid (by omega) hen.2
  have HID:=Lib.hid hid
  have HDL:=Lib.hid hd
  have HF:=Lib.hid hf
  have HE:=Lib.hid E
  have HEN:=Lib.hid hen
  have HEX : Hid (Q.entry c e = { e with ep:=(Q.entry c e).ep,cnt:=(Q.entry c e).cnt }):=rfl
  have HS1:=Lib.hid hs1
  have HS2:=Lib.hid hs2
  have HFL:=Lib.hid hfl
  have hlk:=fun (w' : World) (K : List Res) (S' : Sp w0 [] w' (mapNR 34 Row3.agg P.m Q.rows :: K)) => S'.mapN.lookOk (t:=88) keyedN Tryz.underlying88 (zeroRow3 _) (keyNum e.id (by omega))
  have hr : ((Q.rows.get e.id).map Row3.agg).getD (Row3.agg ⟨[],0,0⟩) = (rowAt Q.rows e.id).agg:=by unfold rowAt; cases Q.rows.get e.id <;> rfl
  rw [hr] at hlk
  have HN:=Lib.hid hn
  have HOF : Hid ((slFile Q.rows e.id).length ≤ 4000):=slFile_len h.fit e.id (by omega)
  obtain ⟨va,vc,rfl⟩:=(HT w (slPs P c Q []) (by unfold slPs at S ⊢; exact S)).form
  generalize Q.sealed c e body = so at *
  generalize Q.write c e body = wo at *
  obtain ⟨en,hen2⟩ : ∃ en,Q.entry c e = en:=⟨_,rfl⟩
  simp only [hen2] at HV HSL HEN HEX HFL
  clear hs1 hs2 hs3 hen hfl hid hd hf E HT h hn hr hen2
  generalize slFile Q.rows e.id = of at *
  generalize hrw : rowAt Q.rows e.id = rr at *
  generalize Q.rows.has e.id = has at *
  clear hrw
  obtain ⟨rd,rn,ro⟩:=rr
  obtain ⟨Q1,tx,er⟩:=so
  obtain ⟨xi,xd,xe,xc,xf,xr,xb,xn,xt⟩:=e
  unfold Row3.agg enCells enAgg at *
  dsimp only at *
  have HLK:=Lib.hid hlk
  have S0:=S.box #[.int .u64 xi,.string ⟨xd.toArray⟩,.int .u64 xe,.int .u64 xc,.string ⟨xf.1.toArray⟩,.string ⟨xf.2.toArray⟩,.slice va xr.length vc,.int .u64 xb,.int .u64 xn,.int .i64 xt] 40
  unfold slPs at S0
  have HS:=Lib.hid S0
  clear S S0 hlk
  go_enter Tryz.func39,Tryz.ntmps39
  go_upto_region 2 with (fail)
  generalize w.alloc _ = w1 at *
  generalize w.heap.size = q at *
  refine wp_region_chainG [0,1,2,3,4,5,6,7,8,9,10,11,12] (fun c => c == 10 || c == 11) (fun c => false) (T:=fun wx => (∀ o_1,wx.cell? ⟨q,o_1,none⟩ = (#[.int .u64 xi,.string ⟨xd.toArray⟩,.int .u64 xe,.int .u64 xc,.string ⟨xf.1.toArray⟩,.string ⟨xf.2.toArray⟩,.slice va xr.length vc,.int .u64 xb,.int .u64 xn,.int .i64 xt])[o_1]?) ∧ (∀ o_2,wx.cell? ⟨P.s,o_2,none⟩ = (#[.pointer (some ⟨P.d,0,none⟩),.pointer (some ⟨P.b,0,none⟩),.string ⟨c.master.toArray⟩,.pointer (some ⟨P.l,0,none⟩),.pointer (some ⟨P.r,0,none⟩),.map (some P.m),.int .u64 Q.last])[o_2]?) ∧ (Instr.lookup 88 (.map (some P.m)) (.int .u64 xi) true).run Tryz.prog wx = .ok (.tuple #[.agg #[.string ⟨rd.toArray⟩,.int .u64 rn,.int .u64 ro],.bool has]) wx) (S:=fun wx => Sp w0 [] wx (boxR q #[.int .u64 xi,.string ⟨xd.toArray⟩,.int .u64 xe,.int .u64 xc,.string ⟨xf.1.toArray⟩,.string ⟨xf.2.toArray⟩,.slice va xr.length vc,.int .u64 xb,.int .u64 xn,.int .i64 xt] 40 :: boxR P.s (slCells P c.master Q.last) 90 :: mapNR 34 Row3.agg P.m Q.rows :: diskR P.d Q.D :: bxR P.b Q.B :: ledR P.l P.d c.step c.most Q.led :: ringR P.r P.d Q.ring :: L)) (by kernel_rfl) (by kernel_rfl) (by kernel_rfl) HS.out.drew (fun x h => ⟨h.cell,h.pull1.cell,HLK.out x _ ((Sp.pick [_,_,_] [2,0,1] (by decide) (h)))⟩) ?_
  repeat
    refine Exists.intro _ (And.intro rfl (Or.inl (Exists.intro ?_ (And.intro (fun wS hS K hK => ?_) (And.intro ?_ ?_)))))
    rotate_left 1
    · obtain ⟨t0,t1,t2⟩:=hS
      first
        | (refine if_unwanted rfl ?_; simp only [Act.put,List.setIfInBounds_toArray,List.set_cons_zero,List.set_cons_succ]; exact hK.out)
        | (refine if_wanted rfl ?_; go_simp; exact hK.out)
    · rfl
  refine ChainG.one rfl rfl rfl (fun wS hS R hR => ?_)
  go_simp
  obtain ⟨g,hg⟩ : ∃ g,g = wS.heap.size:=⟨_,rfl⟩
  rw [← hg]
  replace hg:=Lib.hid hg
  refine hR.out _ _ rfl (fun wx => (∀ o_1,wx.cell? ⟨q,o_1,none⟩ = (#[.int .u64 xi,.string ⟨xd.toArray⟩,.int .u64 xe,.int .u64 xc,.string ⟨xf.1.toArray⟩,.string ⟨xf.2.toArray⟩,.slice va xr.length vc,.int .u64 xb,.int .u64 xn,.int .i64 xt])[o_1]?) ∧ (∀ o_2,wx.cell? ⟨P.s,o_2,none⟩ = (#[.pointer (some ⟨P.d,0,none⟩),.pointer (some ⟨P.b,0,none⟩),.string ⟨c.master.toArray⟩,.pointer (some ⟨P.l,0,none⟩),.pointer (some ⟨P.r,0,none⟩),.map (some P.m),.int .u64 Q.last])[o_2]?) ∧ (Instr.lookup 88 (.map (some P.m)) (.int .u64 xi) true).run Tryz.prog wx = .ok (.tuple #[.agg #[.string ⟨rd.toArray⟩,.int .u64 rn,.int .u64 ro],.bool has]) wx) (fun wx => Sp w0 [] wx (boxR g #[.string ⟨#[]⟩,.int .u64 0,.int .u64 0] 107 :: boxR q #[.int .u64 xi,.string ⟨xd.toArray⟩,.int .u64 xe,.int .u64 xc,.string ⟨xf.1.toArray⟩,.string ⟨xf.2.toArray⟩,.slice va xr.length vc,.int .u64 xb,.int .u64 xn,.int .i64 xt] 40 :: boxR P.s (slCells P c.master Q.last) 90 :: mapNR 34 Row3.agg P.m Q.rows :: diskR P.d Q.D :: bxR P.b Q.B :: ledR P.l P.d c.step c.most Q.led :: ringR P.r P.d Q.ring :: L)) (by rw [hg.out]; exact hS.box _ _) (fun x h => ⟨h.pull1.cell,h.pull2.cell,HLK.out x _ ((Sp.pick [_,_,_,_] [3,0,1,2] (by decide) (h)))⟩) (fun _ h => h) ?_
  clear hR
  repeat
    refine Exists.intro _ (And.intro rfl (Or.inl (Exists.intro ?_ (And.intro (fun wS hS K hK => ?_) (And.intro ?_ ?_)))))
    rotate_left 1
    · obtain ⟨t0,t1,t2⟩:=hS
      first
        | (refine if_unwanted rfl ?_; simp only [Act.put,List.setIfInBounds_toArray,List.set_cons_zero,List.set_cons_succ]; exact hK.out)
        | (refine if_wanted rfl ?_; go_simp; exact hK.out)
    · rfl
  refine ChainG.one rfl rfl rfl (fun wS hS R hR => ?_)
  have c1:=hS.cell
  have f1:=hS.free
  have HP:=Lib.hid ((((hS.set (o:=0) (.string ⟨rd.toArray⟩)).set (o:=1) (.int .u64 rn)).set (o:=2) (.int .u64 ro)).drop)
  go_simp
  refine hR.out _ _ rfl (fun wx => (∀ o_1,wx.cell? ⟨q,o_1,none⟩ = (#[.int .u64 xi,.string ⟨xd.toArray⟩,.int .u64 xe,.int .u64 xc,.string ⟨xf.1.toArray⟩,.string ⟨xf.2.toArray⟩,.slice va xr.length vc,.int .u64 xb,.int .u64 xn,.int .i64 xt])[o_1]?) ∧ (∀ o_2,wx.cell? ⟨P.s,o_2,none⟩ = (#[.pointer (some ⟨P.d,0,none⟩),.pointer (some ⟨P.b,0,none⟩),.string ⟨c.master.toArray⟩,.pointer (some ⟨P.l,0,none⟩),.pointer (some ⟨P.r,0,none⟩),.map (some P.m),.int .u64 Q.last])[o_2]?) ∧ (Instr.lookup 88 (.map (some P.m)) (.int .u64 xi) true).run Tryz.prog wx = .ok (.tuple #[.agg #[.string ⟨rd.toArray⟩,.int .u64 rn,.int .u64 ro],.bool has]) wx) (fun wx => Sp w0 [] wx (boxR q #[.int .u64 xi,.string ⟨xd.toArray⟩,.int .u64 xe,.int .u64 xc,.string ⟨xf.1.toArray⟩,.string ⟨xf.2.toArray⟩,.slice va xr.length vc,.int .u64 xb,.int .u64 xn,.int .i64 xt] 40 :: boxR P.s (slCells P c.master Q.last) 90 :: mapNR 34 Row3.agg P.m Q.rows :: diskR P.d Q.D :: bxR P.b Q.B :: ledR P.l P.d c.step c.most Q.led :: ringR P.r P.d Q.ring :: L)) HP.out (fun x h => ⟨h.cell,h.pull1.cell,HLK.out x _ ((Sp.pick [_,_,_] [2,0,1] (by decide) (h)))⟩) (fun _ h => h) ?_
  clear hR
  repeat
    refine Exists.intro _ (And.intro rfl (Or.inl (Exists.intro ?_ (And.intro (fun wS hS K hK => ?_) (And.intro ?_ ?_)))))
    rotate_left 1
    · obtain ⟨t0,t1,t2⟩:=hS
      first
        | (refine if_unwanted rfl ?_; simp only [Act.put,List.setIfInBounds_toArray,List.set_cons_zero,List.set_cons_succ]; exact hK.out)
        | (refine if_wanted rfl ?_; go_simp; exact hK.out)
    · rfl
  intro wE hE
  have HSE:=Lib.hid hE
  clear hE
  clear HLK HS
  obtain ⟨old,hold⟩ : ∃ o : Bs,(if has = true then of else []) = o:=⟨_,rfl⟩
  go_upto_if 26 with (fail)
  go_cut [7,8] (fun v7 v8 wx => v7 = .string ⟨old.toArray⟩ ∧ v8 = .bool has ∧ Sp w0 [] wx (boxR q #[.int .u64 xi,.string ⟨xd.toArray⟩,.int .u64 xe,.int .u64 xc,.string ⟨xf.1.toArray⟩,.string ⟨xf.2.toArray⟩,.slice va xr.length vc,.int .u64 xb,.int .u64 xn,.int .i64 xt] 40 :: boxR P.s (slCells P c.master Q.last) 90 :: mapNR 34 Row3.agg P.m Q.rows :: diskR P.d Q.D :: bxR P.b Q.B :: ledR P.l P.d c.step c.most Q.led :: ringR P.r P.d Q.ring :: L))
  case first =>
    cases has with
    | true =>
      rw [if_pos rfl] at hold
      have c0:=HSE.out.cell
      go_wp2_with fail
      have HZ:=(Sp.pick [_,_,_,_,_,_,_] [1,2,3,4,5,6,0] (by decide) (HSE.out))
      refine (HFI.out _ _ HZ).mono ?_
      rintro r w2 ⟨rfl,S⟩
      unfold slPs at S
      have HS:=Lib.hid ((Sp.pick [_,_,_,_,_,_,_] [6,0,1,2,3,4,5] (by decide) (S)))
      clear S HSE c0 HZ
      go_wp2_with fail
      go_meet
      exact ⟨rfl,rfl,HS.out⟩
    | false =>
      rw [if_neg (by simp)] at hold
      go_wp2_with fail
      go_meet
      exact ⟨by first | rfl | rw [← hold],rfl,HSE.out⟩
  case rest =>
    obtain ⟨rfl,rfl,S⟩:=hcut
    have HS:=Lib.hid S
    clear S HSE HFI
    go_wp2_with fail
    refine (HSL.out _ q HS.out).mono ?_
    rintro r w2 ⟨e2,he2,rfl,S⟩
    clear HSL HS
    by_cases he : er = 0
    rotate_left 1
    · have hb : (er != 0) = true:=by simpa using he
      have HV2 : Hid (wo = (Q1,er)):=by unfold Hid; rw [HV.out,if_pos he]
      have HZ:=Lib.hid S.drop
      clear he HV S he2
      go_wp2_with fail
      go_ret
      exact ⟨by rw [HV2.out]; rfl,by rw [HV2.out]; exact HZ.out⟩
    subst he
    obtain rfl:=he2 rfl
    rw [if_neg (by simp)] at HV
    obtain ⟨ne,hne⟩ : ∃ x,e2.ep = x:=⟨_,rfl⟩
    obtain ⟨nc,hnc⟩ : ∃ x,e2.cnt = x:=⟨_,rfl⟩
    rw [hne,hnc] at HEX HEN HV HFL
    have hex:=HEX.out
    clear he2 HEX hne hnc
    subst hex
    dsimp only at *
    have c0:=S.cell
    have HS:=Lib.hid S
    have HNM:=Lib.hid (enNameS (v:=.slice va xr.length vc) ⟨xi,xd,ne,nc,xf,xr,xb,xn,xt⟩ HE.out { HF.out with ep:=by have:=HEN.out; dsimp only; omega,cnt:=by have:=HEN.out; dsimp only; omega } S)
    unfold enAgg at HNM
    rw [show enName ⟨xi,xd,ne,nc,xf,xr,xb,xn,xt⟩ = fileB xi ne nc from rfl] at HNM
    dsimp only at HNM c0
    have HRF : Hid (⟨xd,ne,nc⟩ : Row3).fit:=⟨HDL.out,by have:=HEN.out; dsimp only; omega,HEN.out.2⟩
    generalize fileB xi ne nc = file at *
    rw [wrote_eq] at HV
    have h0:=HS1.out
    have hrm:=h0.room.write file tx
    have htl:=HS2.out
    have HWR:=Lib.hid (fun (w' : World) (K' : List Res) (S' : Sp w0 [] w' (diskR P.d Q1.D :: K')) => writeS file tx S' (h0.room.small (by have:=HN.out; omega)) (by have:=HFL.out; omega) (by omega))
    have HO1 : Hid (SlOk c (n + 22000) { Q1 with D:=(Q1.D.write file tx).1 }):=h0.disk (hrm.mono (by omega)) (by omega)
    clear S h0 hrm htl HEN HF HS1
    generalize Q1.D.write file tx = A at *
    obtain ⟨D2,ea⟩:=A
    dsimp only at *
    go_wp2_with fail
    refine HNM.out.mono ?_
    rintro r w3 ⟨rfl,S⟩
    have cs:=S.pull1.cell
    unfold slCells at cs
    unfold slPs at S
    have HS:=Lib.hid S
    clear S HNM c0
    go_wp2_with fail
    refine (HWR.out _ _ HS.out.pull3).mono ?_
    rintro r w4 ⟨rfl,S⟩
    have HS:=Lib.hid ((Sp.pick [_,_,_,_] [1,2,3,0] (by decide) (S)))
    clear S HWR cs
    by_cases he : ea = 0
    rotate_left 1
    · have hb : (ea != 0) = true:=by simpa using he
      have HV2 : Hid (wo = ({ Q1 with D:=D2 },ea)):=by unfold Hid; rw [HV.out,if_pos he]
      clear he HV
      go_wp2_with fail
      go_ret
      exact ⟨by rw [HV2.out]; rfl,by rw [HV2.out]; exact HS.out.drop⟩
    subst he
    rw [if_neg (by simp)] at HV
    have h1:=HO1.out
    have h2:=h1.lay HID.out HRF.out
    have HLY:=Lib.hid (fun (w' : World) (K' : List Res) (S' : Sp w0 [] w' (slPs P c { Q1 with D:=D2 } K')) => slLayS xi ⟨xd,ne,nc⟩ (n + 22000) (by have:=HID.out; omega) HRF.out (h1.small (by have:=HN.out; omega)) h1.room (by have:=HN.out; omega) S')
    generalize ({ Q1 with D:=D2 } : Sq).lay xi ⟨xd,ne,nc⟩ = Y at *
    obtain ⟨Q3,eb⟩:=Y
    dsimp only at *
    have HRM:=Lib.hid (fun (w' : World) (K' : List Res) (nm : Bs) (hnm : nm.length ≤ 4000) (S' : Sp w0 [] w' (diskR P.d Q3.D :: K')) => removeS nm S' (h2.room.small (by have:=HN.out; omega)) (by omega))
    have cq:=HS.out.cell
    have HZ : Hid (Sp w0 [] w4 (slPs P c { Q1 with D:=D2 } (boxR q #[.int .u64 xi,.string ⟨xd.toArray⟩,.int .u64 ne,.int .u64 nc,.string ⟨xf.1.toArray⟩,.string ⟨xf.2.toArray⟩,.slice va xr.length vc,.int .u64 xb,.int .u64 xn,.int .i64 xt] 40 :: L))):=by
      unfold slPs
      exact (Sp.pick [_,_,_,_,_,_,_] [1,2,3,4,5,6,0] (by decide) (HS.out))
    unfold Row3.agg at HLY
    clear h1 h2 HS HO1 HID HRF
    go_wp2_with fail
    refine (HLY.out _ _ HZ.out).mono ?_
    rintro r w5 ⟨rfl,S⟩
    have cs:=S.cell
    unfold slCells at cs
    unfold slPs at S
    have HS:=Lib.hid ((Sp.pick [_,_,_,_,_,_,_] [0,1,2,3,4,5] (by decide) (S)))
    clear S HZ HLY cq
    by_cases he : eb = 0
    rotate_left 1
    · have hb : (eb != 0) = true:=by simpa using he
      have HV2 : Hid (wo = ({ Q3 with D:=(Q3.D.remove file).1 },eb)):=by unfold Hid; rw [HV.out,if_pos he]
      clear he HV
      go_wp2_with fail
      refine (HRM.out _ _ file HFL.out HS.out.pull2).mono ?_
      rintro r w6 ⟨rfl,S⟩
      have HS:=Lib.hid ((Sp.pick [_,_,_] [1,2,0] (by decide) (S)))
      clear S HRM cs
      go_wp2_with fail
      go_ret
      exact ⟨by rw [HV2.out]; rfl,by rw [HV2.out]; exact HS.out⟩
    subst he
    rw [if_neg (by simp)] at HV
    cases has with
    | false =>
      have HV2 : Hid (wo = (Q3,0)):=by unfold Hid; rw [HV.out]; rfl
      clear HV hold
      go_wp2_with fail
      go_ret
      exact ⟨by rw [HV2.out]; rfl,by rw [HV2.out]; exact HS.out⟩
    | true =>
      rw [if_pos rfl] at hold
      subst hold
      rw [if_pos rfl] at HV
      by_cases ho : of = file
      · have HV2 : Hid (wo = (Q3,0)):=by unfold Hid; rw [HV.out]; dsimp only; rw [if_pos ho]
        have hb : (of == file) = true:=by simpa using ho
        clear HV ho
        go_wp2_with fail
        go_ret
        exact ⟨by rw [HV2.out]; rfl,by rw [HV2.out]; exact HS.out⟩
      · have HV2 : Hid (wo = ({ Q3 with D:=(Q3.D.remove of).1 },(Q3.D.remove of).2)):=by unfold Hid; rw [HV.out]; dsimp only; rw [if_neg ho]
        have hb : (of == file) = false:=by simpa using ho
        clear HV ho
        go_wp2_with fail
        refine (HRM.out _ _ of HOF.out HS.out.pull2).mono ?_
        rintro r w6 ⟨rfl,S⟩
        have HS:=Lib.hid ((Sp.pick [_,_,_] [1,2,0] (by decide) (S)))
        clear S HRM cs
        go_wp2_with fail
        go_ret
        exact ⟨by rw [HV2.out]; rfl,by rw [HV2.out]; exact HS.out⟩
end
end
end Go.Proofs.YtangbdahnmomlaaGreatDoor
