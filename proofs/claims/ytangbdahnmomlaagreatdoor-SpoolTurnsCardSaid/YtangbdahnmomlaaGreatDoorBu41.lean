/- spool: Step. Conditions: the lengths fit; what Go's variables hold. -/
import Derived.Test.YtangbdahnmomlaaGreatDoorBu40
set_option linter.unnecessarySimpa false
set_option linter.unusedSimpArgs false
set_option linter.unusedVariables false
set_option maxHeartbeats 8000000
set_option maxRecDepth 1000000
namespace Go.Proofs.YtangbdahnmomlaaGreatDoor
section
open Go.RowKit Go.Maps Go.Shelf
attribute [local go_sem] Oper.semAt_some
theorem Dc {B:Bx} {key t:Bs} (h:(dQ B key t).2.2=0):dz (dQ B key t).1=true:=by
 unfold dQ iP at h ⊢
 split at h
 ·rename_i h0
  rw [if_pos h0]
  split at h
  ·rename_i h1
   rw [if_pos h1]
   split at h
   ·rename_i h2
    rw [if_pos h2]
    exact (vK h0).1
   ·rename_i h2
    exact absurd h h2
  ·rename_i h1
   exact absurd h h1
 ·rename_i h0
  exact absurd h h0
theorem Lh {Q:Sq} {m:Bs} {id:Nat} (h:(Q.open m id).2.2=true):dz (Q.open m id).1=true∧(Q.open m id).1.id=id∧(Q.open m id).1.dom=(rowAt Q.rows id).dom∧(Q.open m id).1.ep=(rowAt Q.rows id).ep∧(Q.open m id).1.cnt=(rowAt Q.rows id).cnt:=by
 unfold Sq.open at h ⊢
 split at h
 ·rename_i h0
  rw [if_pos h0]
  split at h
  ·rename_i h1
   rw [if_pos h1]
   split at h
   ·rename_i h2
    rw [if_pos h2]
    unfold wH at h2
    simp only [Bool.and_eq_true,decide_eq_true_eq] at h2
    obtain ⟨⟨⟨⟨⟨a1,a2⟩,a3⟩,a4⟩,a5⟩,_⟩:=h2
    exact ⟨Dc a1,a2,a3,a4,a5⟩
   ·cases h
  ·cases h
 ·cases h
theorem EH {Q:Sq} {m:Bs} {id:Nat} (h:(Q.load m id).2.2.2=0):Q.rows.has id=true∧(Q.open m id).2.2=true∧Q.load m id=(Q,(Q.open m id).1,(Q.open m id).2.1,0):=by
 rw [zI] at h ⊢
 split at h
 ·cases h
 ·rename_i h0
  rw [if_neg h0]
  split at h
  ·rename_i h1
   rw [if_pos h1]
   exact ⟨by simpa using h0,h1,rfl⟩
  ·split at h
   ·rename_i h2
    exact absurd h h2
   ·split at h
    ·rename_i h3
     exact absurd h h3
    ·cases h
theorem Nv {e:En} (h:dz e=true):e.Fit:=by
 have p:=bT h
 exact ⟨by have:=p.id;omega,by have:=p.ep;omega,by have:=p.cnt;omega,by have:=p.born;omega,by have:=p.jM;omega,by have:=p.tries;omega,by have:=p.dom;omega,by have:=p.mX;omega,by have:=p.gz;omega,fun x hx=>by have:=p.each x hx;omega⟩
theorem sM (M:Mn aJ) (d:Bs) (o:Nat):∀ (l k:List Nat),bZ M d o l=none→bZ M d o (l++k)=bZ M d o k
 | [],k,_=>rfl
 | x::l,k,h=>by
  unfold bZ at h
  split at h
  ·cases h
  ·rename_i hx
   rw [List.cons_append]
   conv=>lhs;unfold bZ
   rw [if_neg hx]
   exact sM M d o l k h
theorem sN {M:Mn aJ} {d:Bs} {o id:Nat}:∀ {l:List Nat},bZ M d o l=some id→id∈l
 | x::l,h=>by
  unfold bZ at h
  split at h
  ·cases h;exact List.mem_cons_self
  ·exact List.mem_cons_of_mem _ (sN h)
theorem step_eq (Q:Sq) (c:Sc) (d:Bs):Q.step c d=if (ax Q.ring d).old=0 then (Q,false,10)
 else match bZ Q.rows d (ax Q.ring d).old Q.ids with
  | some id=>if (Q.load c.ai id).2.2.2=0 then (((Q.load c.ai id).1.write c (Q.load c.ai id).2.1 (Q.load c.ai id).2.2.1).1,false,((Q.load c.ai id).1.write c (Q.load c.ai id).2.1 (Q.load c.ai id).2.2.1).2)
   else if (Q.load c.ai id).2.2.2=20 then ((Q.load c.ai id).1,false,0) else ((Q.load c.ai id).1,false,(Q.load c.ai id).2.2.2)
  | none=>({ Q with D:=(fU Q.D Q.ring d).1,ring:=(fU Q.D Q.ring d).2.1 },decide ((fU Q.D Q.ring d).2.2=0),(fU Q.D Q.ring d).2.2):=rfl
theorem bg.stepped {c:Sc} {n:Nat} {Q:Sq} (h:bg c n Q) (d:Bs):bg c (n+23000) (Q.step c d).1:=by
 have h0:=h.mono (show n≤n+23000 by omega)
 rw [step_eq]
 split
 ·exact h0
 ·split
  ·rename_i id _
   have h1:=h.load id
   split
   ·rename_i hz
    obtain ⟨hh,hr,_⟩:=EH hz
    have ho:=Lh hr
    refine (h1.write _ _ ?_).mono (by omega)
    obtain ⟨_,_,e⟩:=EH hz
    rw [e]
    exact (bT ho.1).id.2
   ·split
    ·exact h1.mono (by omega)
    ·exact h1.mono (by omega)
  ·exact (h.end d).mono (by omega)
section
variable {w0 w:World} {L:List aT} {P:nS} {c:Sc} {Q:Sq} {v:Value}
def lg (P:nS) (c:Sc) (q2 q3 q4 q5 q6:Nat) (d:Bs) (old:Nat) (Q:Sq) (b:Bool) (e:Int) (L:List aT):List aT :=
 ay P c Q (ae q4 #[.bool b] 4::ae q5 #[.int .i64 e] 27::ae q2 #[.pointer (some ⟨P.s,0,none⟩)] 26::ae q3 #[.string ⟨d.toArray⟩] 9::ae q6 #[.int .u64 old] 34::L)
theorem zJ (d:Bs) (n:Nat) (hd:d.length≤1000000) (h:bg c n Q) (hn:n≤969000) (E:Env w0) (S:Sp w0 [] w (ay P c Q L)) :
  Calls Tryz.prog 12 #[.pointer (some ⟨P.s,0,none⟩),.string ⟨d.toArray⟩] w fun r w2=>r=.returned (.tuple #[.bool (Q.step c d).2.1,.int .i64 (Q.step c d).2.2])∧Sp w0 [] w2 (ay P c (Q.step c d).1 L):=by
 refine (callsIn_wide (n:=6)).1 ?_
 have HV:Hid (Q.step c d=_):=Lib.hid (step_eq Q c d)
 have zD:=Lib.hid h
 have HN:=Lib.hid hn
 have HE:=Lib.hid E
 have HD:=Lib.hid hd
 have Xd:=Lib.hid (fun (w':World) (K REST:List aT) (S':Sp w0 [] w' (K++(bz P.r P.d Q.ring::REST)))=>(jl d S'.front (by unfold maxLen;omega)).mono (fun r w2 h=>(⟨h.1,h.2.Kt⟩:r=.returned (ax Q.ring d).agg∧Sp w0 [] w2 (K++(bz P.r P.d Q.ring::REST)))))
 have S1:=(((S.box #[.pointer (some ⟨P.s,0,none⟩)] 26).box #[.string ⟨d.toArray⟩] 9).box #[.bool false] 4).box #[.int .i64 0] 27
 simp only [World.size_alloc] at S1
 unfold ay at S1
 have bX:=Lib.hid ((Sp.pick [_,_,_,_,_,_,_,_,_,_] [4,5,6,7,8,9,1,0,3,2] (by decide) (S1)))
 clear S1 h hn E hd S
 generalize hst:ax Q.ring d=st at *
 obtain ⟨nw,od⟩:=st
 unfold jF.agg at Xd
 dsimp only at *
 refine callsIn_of_wp_marks Tryz.func12 rfl trivial ?_ rfl
 simp only [Tryz.ntmps12,List.size_toArray,List.length_cons,List.length_nil,Nat.reduceAdd,Nat.reduceSub,Array.replicate_succ,Array.replicate_zero,List.push_toArray,List.append_toArray,List.nil_append,List.cons_append]
 gi_wp2_with fail
 generalize (((w.alloc _).alloc _).alloc _).alloc _=w1 at *
 generalize w.heap.size+1+1+1=q5 at *
 generalize w.heap.size+1+1=q4 at *
 generalize w.heap.size+1=q3 at *
 generalize w.heap.size=q2 at *
 have bV:Hid (Sp w0 [] w1 (bz P.r P.d Q.ring::ae P.s (aA P c.ai Q.last) 90::aY 34 aJ.agg P.m Q.rows::aF P.d Q.D::jG P.b Q.B::dP P.l P.d c.step c.most Q.led::ae q4 #[.bool false] 4::ae q5 #[.int .i64 0] 27::ae q2 #[.pointer (some ⟨P.s,0,none⟩)] 26::ae q3 #[.string ⟨d.toArray⟩] 9::L)):=(Sp.pick [_,_,_,_,_,_,_,_,_,_] [5,0,1,2,3,4,6,7,8,9] (by decide) (bX.out))
 have BK:Hid (∀ (wx:World) (K:List aT),Sp w0 [] wx (K++(bz P.r P.d Q.ring::ae P.s (aA P c.ai Q.last) 90::aY 34 aJ.agg P.m Q.rows::aF P.d Q.D::jG P.b Q.B::dP P.l P.d c.step c.most Q.led::ae q4 #[.bool false] 4::ae q5 #[.int .i64 0] 27::ae q2 #[.pointer (some ⟨P.s,0,none⟩)] 26::ae q3 #[.string ⟨d.toArray⟩] 9::L))→(wx.cell? ⟨P.s,4,none⟩=some (.pointer (some ⟨P.r,0,none⟩))∧wx.cell? ⟨q2,0,none⟩=some (.pointer (some ⟨P.s,0,none⟩))∧wx.cell? ⟨q3,0,none⟩=some (.string ⟨d.toArray⟩))):=fun wx K h=>by
  have h2:=Sp.drops K h
  exact ⟨((Sp.pick [_,_,_,_,_,_,_,_,_,_] [1] (by decide) (h2))).cell 4,((Sp.pick [_,_,_,_,_,_,_,_,_,_] [8] (by decide) (h2))).cell 0,((Sp.pick [_,_,_,_,_,_,_,_,_,_] [9] (by decide) (h2))).cell 0⟩
 clear bX
 refine wpIn_mono (Q:=fun e a2 wx=>match e with | .normal=>∃ g:Nat,a2={ tmps:=#[.pointer (some ⟨P.s,0,none⟩),.string ⟨d.toArray⟩,.pointer (some ⟨q2,0,none⟩),.pointer (some ⟨q3,0,none⟩),.pointer (some ⟨q4,0,none⟩),.pointer (some ⟨q5,0,none⟩),.pointer (some ⟨g,0,none⟩),undef,undef,undef,undef,undef,undef,.pointer (some ⟨P.s,0,none⟩),.pointer (some ⟨P.s,0,none⟩),.pointer (some ⟨P.s,4,none⟩),.pointer (some ⟨P.r,0,none⟩),.string ⟨d.toArray⟩,.agg #[.int .u64 nw,.int .u64 od],.int .u64 od,undef,undef,undef,undef,undef,undef,undef,undef,undef,undef,undef,undef,undef,undef,undef,undef,undef,undef,undef,undef,undef,undef,undef,undef,undef,undef,undef,undef,undef,undef,undef,undef,undef,undef,undef,undef,undef,undef,undef,undef,undef,undef,undef,undef,undef,undef,undef],defers:=[] }∧Sp w0 [] wx (ae g #[.int .u64 od] 34::bz P.r P.d Q.ring::ae P.s (aA P c.ai Q.last) 90::aY 34 aJ.agg P.m Q.rows::aF P.d Q.D::jG P.b Q.B::dP P.l P.d c.step c.most Q.led::ae q4 #[.bool false] 4::ae q5 #[.int .i64 0] 27::ae q2 #[.pointer (some ⟨P.s,0,none⟩)] 26::ae q3 #[.string ⟨d.toArray⟩] 9::L) | _=>False) (wpIn_wide.2 ?_) ?_
 ·skip
  refine wp_region_held (S:=fun wx=>wx.cell? ⟨P.s,4,none⟩=some (.pointer (some ⟨P.r,0,none⟩))∧wx.cell? ⟨q2,0,none⟩=some (.pointer (some ⟨P.s,0,none⟩))∧wx.cell? ⟨q3,0,none⟩=some (.string ⟨d.toArray⟩)) (by kernel_rfl) ?_
  have hS0:=BK.out _ [] bV.out.drew
  refine aI (i:=0) 13 (v:=?_) rfl rfl (by kernel_rfl) (by kernel_rfl) (by kernel_rfl) (fun _ _ _ h=>h) (Or.inl ⟨by rfl,?_⟩) hS0 ?_
  rotate_left 1
  ·intro wS ⟨s0,s1,s2⟩
   go_simp
   try with_reducible rfl
  simp only [Act.put,List.setIfInBounds_toArray,List.set_cons_zero,List.set_cons_succ]
  refine aI (i:=1) 14 (v:=?_) rfl rfl (by kernel_rfl) (by kernel_rfl) (by kernel_rfl) (fun _ _ _ h=>h) (Or.inl ⟨by rfl,?_⟩) hS0 ?_
  rotate_left 1
  ·intro wS ⟨s0,s1,s2⟩
   go_simp
   try with_reducible rfl
  simp only [Act.put,List.setIfInBounds_toArray,List.set_cons_zero,List.set_cons_succ]
  refine aI (i:=2) 15 (v:=?_) rfl rfl (by kernel_rfl) (by kernel_rfl) (by kernel_rfl) (fun _ _ _ h=>h) (Or.inl ⟨by rfl,?_⟩) hS0 ?_
  rotate_left 1
  ·intro wS ⟨s0,s1,s2⟩
   go_simp
   try with_reducible rfl
  simp only [Act.put,List.setIfInBounds_toArray,List.set_cons_zero,List.set_cons_succ]
  refine aI (i:=3) 16 (v:=?_) rfl rfl (by kernel_rfl) (by kernel_rfl) (by kernel_rfl) (fun _ _ _ h=>h) (Or.inl ⟨by rfl,?_⟩) hS0 ?_
  rotate_left 1
  ·intro wS ⟨s0,s1,s2⟩
   go_simp
   try with_reducible rfl
  simp only [Act.put,List.setIfInBounds_toArray,List.set_cons_zero,List.set_cons_succ]
  refine aI (i:=4) 17 (v:=?_) rfl rfl (by kernel_rfl) (by kernel_rfl) (by kernel_rfl) (fun _ _ _ h=>h) (Or.inl ⟨by rfl,?_⟩) hS0 ?_
  rotate_left 1
  ·intro wS ⟨s0,s1,s2⟩
   go_simp
   try with_reducible rfl
  simp only [Act.put,List.setIfInBounds_toArray,List.set_cons_zero,List.set_cons_succ]
  refine uK (fun a0 hA=>?_)
  have hsz:a0.tmps.size=67:=by rw [← hA];rfl
  have e16:a0.eval (.tmp 16)=.pointer (some ⟨P.r,0,none⟩):=by rw [← hA];rfl
  have e17:a0.eval (.tmp 17)=.string ⟨d.toArray⟩:=by rw [← hA];rfl
  refine uJ (by kernel_rfl) (fun l aq wx=>(l 0=true∧l 1=true∧l 2=true∧l 3=true∧l 4=true)∧∃ (v18 v19 v6:Value) (MA:List aT),aq=(((a0.put (some 18) v18).put (some 19) v19).put (some 6) v6)∧(l 6=true→l 5=true)∧(l 8=true→l 6=true)∧(l 8=true→l 7=true)∧(l 5=true→v18=.agg #[.int .u64 nw,.int .u64 od])∧(l 6=true→v19=.int .u64 od)∧((l 7=true∧∃ g,v6=.pointer (some ⟨g,0,none⟩)∧MA=[ae g (if l 8 then #[.int .u64 od] else #[.int .u64 0]) 34])∨(l 7=false∧MA=[]))∧Sp w0 [] wx (MA++(bz P.r P.d Q.ring::ae P.s (aA P c.ai Q.last) 90::aY 34 aJ.agg P.m Q.rows::aF P.d Q.D::jG P.b Q.B::dP P.l P.d c.step c.most Q.led::ae q4 #[.bool false] 4::ae q5 #[.int .i64 0] 27::ae q2 #[.pointer (some ⟨P.s,0,none⟩)] 26::ae q3 #[.string ⟨d.toArray⟩] 9::L))) ?_ ?_ _ _ _ _ (by kernel_rfl) (by kernel_rfl) ?_
  ·rintro l aq wx i o ⟨hlt,v18,v19,v6,MA,rfl,TD,TE,TF,d5,d6,mA,S⟩ ho hl hpre
   have hi:i=5∨i=6∨i=7∨i=8:=by
    have h1:=(Array.getElem?_eq_some_iff.1 ho).1
    simp at h1
    have n0:i≠0:=by rintro rfl;rw [hlt.1] at hl;cases hl
    have n1:i≠1:=by rintro rfl;rw [hlt.2.1] at hl;cases hl
    have n2:i≠2:=by rintro rfl;rw [hlt.2.2.1] at hl;cases hl
    have n3:i≠3:=by rintro rfl;rw [hlt.2.2.2.1] at hl;cases hl
    have n4:i≠4:=by rintro rfl;rw [hlt.2.2.2.2] at hl;cases hl
    omega
   rcases hi with rfl | rfl | rfl | rfl
   ·cases ho
    refine ⟨rfl,?_⟩
    refine Oper.wp_mono (K:=fun a2 w2=>a2=(((a0.put (some 18) v18).put (some 19) v19).put (some 6) v6).put (some 18) (.agg #[.int .u64 nw,.int .u64 od])∧Sp w0 [] w2 (MA++(bz P.r P.d Q.ring::ae P.s (aA P c.ai Q.last) 90::aY 34 aJ.agg P.m Q.rows::aF P.d Q.D::jG P.b Q.B::dP P.l P.d c.step c.most Q.led::ae q4 #[.bool false] 4::ae q5 #[.int .i64 0] 27::ae q2 #[.pointer (some ⟨P.s,0,none⟩)] 26::ae q3 #[.string ⟨d.toArray⟩] 9::L))) ?_ ?_
    ·rintro a2 w2 ⟨rfl,S2⟩
     exact ⟨BK.out _ MA S2,⟨⟨aj hlt.1,aj hlt.2.1,aj hlt.2.2.1,aj hlt.2.2.2.1,aj hlt.2.2.2.2⟩,_,v19,v6,MA,by rw [bA _ 6 18 _ _ (by decide),bA _ 19 18 _ _ (by decide),fV],fun h=>aj (TD (av rfl h)),fun h=>aj (TE (av rfl h)),fun h=>aj (TF (av rfl h)),fun _=>rfl,fun h=>d6 (av rfl h),kr (fun c g=>[ae g (if c then #[.int .u64 od] else #[.int .u64 0]) 34]) rfl rfl mA,S2⟩⟩
    ·have es0:(((a0.put (some 18) v18).put (some 19) v19).put (some 6) v6).eval (.tmp 16)=.pointer (some ⟨P.r,0,none⟩):=by rw [az _ 6 16 _ (by decide),az _ 19 16 _ (by decide),az _ 18 16 _ (by decide),e16]
     have es1:(((a0.put (some 18) v18).put (some 19) v19).put (some 6) v6).eval (.tmp 17)=.string ⟨d.toArray⟩:=by rw [az _ 6 17 _ (by decide),az _ 19 17 _ (by decide),az _ 18 17 _ (by decide),e17]
     generalize (((a0.put (some 18) v18).put (some 19) v19).put (some 6) v6)=a1 at *
     have Tm:a1.tmps[16]?.getD undef=.pointer (some ⟨P.r,0,none⟩):=by rw [← Array.getD_eq_getD_getElem?];exact es0
     have et1:a1.tmps[17]?.getD undef=.string ⟨d.toArray⟩:=by rw [← Array.getD_eq_getD_getElem?];exact es1
     go_simp
     refine (Xd.out _ _ _ S).mono ?_
     rintro r w7 ⟨rfl,S7⟩
     exact ⟨rfl,S7⟩
   ·cases ho
    refine ⟨rfl,?_⟩
    have h5:l 5=true:=hpre ⟨5,.data⟩ (by simp) rfl
    have dd:=d5 h5
    subst dd
    refine Oper.wp_mono (K:=fun a2 w2=>a2=(((a0.put (some 18) (.agg #[.int .u64 nw,.int .u64 od])).put (some 19) v19).put (some 6) v6).put (some 19) (.int .u64 od)∧w2=wx) ?_ ?_
    ·rintro a2 w2 ⟨rfl,rfl⟩
     exact ⟨BK.out _ MA S,⟨⟨aj hlt.1,aj hlt.2.1,aj hlt.2.2.1,aj hlt.2.2.2.1,aj hlt.2.2.2.2⟩,_,_,v6,MA,by rw [bA _ 6 19 _ _ (by decide),fV],fun _=>aj h5,fun h=>aj (TE (av rfl h)),fun h=>aj (TF (av rfl h)),fun _=>rfl,fun _=>rfl,kr (fun c g=>[ae g (if c then #[.int .u64 od] else #[.int .u64 0]) 34]) rfl rfl mA,S⟩⟩
    ·have es0:(((a0.put (some 18) (.agg #[.int .u64 nw,.int .u64 od])).put (some 19) v19).put (some 6) v6).eval (.tmp 18)=.agg #[.int .u64 nw,.int .u64 od]:=by rw [az _ 6 18 _ (by decide),az _ 19 18 _ (by decide),dM _ 18 _ (by (try simp only [kK]);rw [hsz];decide)]
     generalize (((a0.put (some 18) (.agg #[.int .u64 nw,.int .u64 od])).put (some 19) v19).put (some 6) v6)=a1 at *
     have Tm:a1.tmps[18]?.getD undef=.agg #[.int .u64 nw,.int .u64 od]:=by rw [← Array.getD_eq_getD_getElem?];exact es0
     have Sk:∀ W:World,(Instr.field 53 (.agg #[.int .u64 nw,.int .u64 od]) 1).run Tryz.prog W=.ok (.int .u64 od) W:=fun W=>by (show @Eq (Result Value) _ _;kernel_rfl)
     go_simp
   ·cases ho
    refine ⟨rfl,?_⟩
    obtain rfl:MA=[]:=by rcases mA with ⟨h,_⟩ | ⟨_,h⟩;rw [hl] at h;cases h;exact h
    have hT:l 8=false:=by cases h:l 8 with | false=>rfl | true=>rw [TF h] at hl;cases hl
    refine Oper.wp_mono (K:=fun a2 w2=>a2=(((a0.put (some 18) v18).put (some 19) v19).put (some 6) v6).put (some 6) (.pointer (some ⟨wx.heap.size,0,none⟩))∧w2=wx.alloc (.cells #[.int .u64 0] 34)) ?_ ?_
    ·rintro a2 w2 ⟨rfl,rfl⟩
     have S2:=S.box #[.int .u64 0] 34
     exact ⟨BK.out _ [ae wx.heap.size #[.int .u64 0] 34] S2,⟨⟨aj hlt.1,aj hlt.2.1,aj hlt.2.2.1,aj hlt.2.2.2.1,aj hlt.2.2.2.2⟩,v18,v19,_,[ae wx.heap.size #[.int .u64 0] 34],by rw [fV],fun h=>aj (TD (av rfl h)),fun h=>aj (TE (av rfl h)),(fun h=>by rw [av (x:=8) rfl h] at hT;cases hT),fun h=>d5 (av rfl h),fun h=>d6 (av rfl h),.inl ⟨by simp,_,rfl,by simp [hT]⟩,S2⟩⟩
    ·generalize (((a0.put (some 18) v18).put (some 19) v19).put (some 6) v6)=a1 at *
     go_simp
     try with_reducible rfl
   ·obtain ⟨hg,hst,hdn⟩:o.guard=none∧o.op=.store 34 (.tmp 6) (.tmp 19)∧o.dst=none:=by cases ho;exact ⟨by kernel_rfl,by kernel_rfl,by kernel_rfl⟩
    refine ⟨by cases ho;rfl,?_⟩
    have h6:l 6=true:=by cases ho;exact hpre ⟨6,.data⟩ (by simp) rfl
    have h7:l 7=true:=by cases ho;exact hpre ⟨7,.data⟩ (by simp) rfl
    clear hpre ho
    have dd:=d6 h6
    subst dd
    rcases mA with ⟨_,g,rfl,rfl⟩ | ⟨h,_⟩
    ·rw [hl,if_neg (by simp)] at S
     have c1:=S.cell
     have f1:=S.free
     have S3:=S.set (o:=0) (.int .u64 od)
     simp only [List.setIfInBounds_toArray,List.set_cons_zero,List.set_cons_succ] at S3
     refine Oper.wp_mono (K:=fun a2 w2=>a2=(((a0.put (some 18) v18).put (some 19) (.int .u64 od)).put (some 6) (.pointer (some ⟨g,0,none⟩)))∧w2=wx.setCell ⟨g,0,none⟩ (.int .u64 od)) ?_ ?_
     ·rintro a2 w2 ⟨rfl,rfl⟩
      exact ⟨BK.out _ [ae g #[.int .u64 od] 34] S3,⟨⟨aj hlt.1,aj hlt.2.1,aj hlt.2.2.1,aj hlt.2.2.2.1,aj hlt.2.2.2.2⟩,v18,_,_,[ae g #[.int .u64 od] 34],rfl,fun h=>aj (TD (av rfl h)),fun _=>aj h6,fun _=>aj h7,fun h=>d5 (av rfl h),fun _=>rfl,.inl ⟨aj h7,g,rfl,by simp⟩,S3⟩⟩
     ·have es0:(((a0.put (some 18) v18).put (some 19) (.int .u64 od)).put (some 6) (.pointer (some ⟨g,0,none⟩))).eval (.tmp 6)=.pointer (some ⟨g,0,none⟩):=by rw [dM _ 6 _ (by (try simp only [kK]);rw [hsz];decide)]
      have es1:(((a0.put (some 18) v18).put (some 19) (.int .u64 od)).put (some 6) (.pointer (some ⟨g,0,none⟩))).eval (.tmp 19)=.int .u64 od:=by rw [az _ 6 19 _ (by decide),dM _ 19 _ (by (try simp only [kK]);rw [hsz];decide)]
      generalize (((a0.put (some 18) v18).put (some 19) (.int .u64 od)).put (some 6) (.pointer (some ⟨g,0,none⟩)))=a1 at *
      have Tm:a1.tmps[6]?.getD undef=.pointer (some ⟨g,0,none⟩):=by rw [← Array.getD_eq_getD_getElem?];exact es0
      have et1:a1.tmps[19]?.getD undef=.int .u64 od:=by rw [← Array.getD_eq_getD_getElem?];exact es1
      obtain ⟨afo,op0,ty0,afp,af0,gd0⟩:=o
      dsimp only at hg hst hdn
      subst hg hst hdn
      go_simp
    ·rw [h7] at h;cases h
  ·rintro l aq wx hl ⟨hlt,v18,v19,v6,MA,rfl,TD,TE,TF,d5,d6,mA,S⟩
   have e5:=hl 5 (by decide)
   have e6:=hl 6 (by decide)
   have e7:=hl 7 (by decide)
   have e8:=hl 8 (by decide)
   have dd:=d5 e5
   subst dd
   have dd:=d6 e6
   subst dd
   rcases mA with ⟨_,g,rfl,rfl⟩ | ⟨h,_⟩
   ·rw [e8,if_pos rfl] at S
    rw [← hA]
    simp only [Act.put,List.setIfInBounds_toArray,List.set_cons_zero,List.set_cons_succ]
    exact ⟨g,rfl,S⟩
   ·rw [e7] at h;cases h
  ·refine ⟨⟨by rfl,by rfl,by rfl,by rfl,by rfl⟩,a0.tmps.getD 18 undef,a0.tmps.getD 19 undef,a0.tmps.getD 6 undef,[],?_,(fun h=>by cases h),(fun h=>by cases h),(fun h=>by cases h),(fun h=>by cases h),(fun h=>by cases h),.inr ⟨rfl,rfl⟩,bV.out.drew⟩
   rw [fZ a0 18 (by rw [hsz];decide),fZ a0 19 (by rw [hsz];decide),fZ a0 6 (by rw [hsz];decide)]
 rintro e a2 w2 hp
 cases e with
 | panic _=>exact hp.elim
 | ret=>exact hp.elim
 | exit _=>exact hp.elim
 | goto _=>exact hp.elim
 | outgrown=>exact hp.elim
 | normal =>
 obtain ⟨q6,rfl,S6⟩:=hp
 have aX:Hid (Sp w0 [] w2 (ae P.s (aA P c.ai Q.last) 90::aY 34 aJ.agg P.m Q.rows::aF P.d Q.D::jG P.b Q.B::dP P.l P.d c.step c.most Q.led::bz P.r P.d Q.ring::ae q4 #[.bool false] 4::ae q5 #[.int .i64 0] 27::ae q2 #[.pointer (some ⟨P.s,0,none⟩)] 26::ae q3 #[.string ⟨d.toArray⟩] 9::ae q6 #[.int .u64 od] 34::L)):=(Sp.pick [_,_,_,_,_,_,_,_,_,_,_] [2,3,4,5,6,1,7,8,9,10,0] (by decide) (S6))
 clear S6 Xd bV BK
 by_cases hod:od=0
 ·have hb:((od:Int) == 0)=true:=by simpa using hod
  have gq:Hid (Q.step c d=(Q,false,10)):=HV.out.trans (if_pos hod)
  have c6:=((Sp.pick [_,_,_,_,_,_,_,_,_,_,_] [10,0,1,2,3,4,5,6,7,8,9] (by decide) (aX.out))).cell
  have S4:=(Sp.pick [_,_,_,_,_,_,_,_,_,_,_] [6,0,1,2,3,4,5,7,8,9,10] (by decide) (aX.out))
  have c4:=S4.cell
  have f4:=S4.free
  have CR:=S4.set (o:=0) (.bool false)
  have S5:=(Sp.pick [_,_,_,_,_,_,_,_,_,_,_] [7,0,1,2,3,4,5,6,8,9,10] (by decide) (CR))
  have c5:=S5.cell
  have f5:=S5.free
  have S6:=S5.set (o:=0) (.int .i64 10)
  have S7:=(Sp.pick [_,_,_,_,_,_,_,_,_,_,_] [2,3,4,5,6,7,1,0,8,9,10] (by decide) (S6))
  have d4:=((Sp.pick [_,_,_,_,_,_,_,_,_,_,_] [6,0,1,2,3,4,5,7,8,9,10] (by decide) (S7))).cell
  have d5:=((Sp.pick [_,_,_,_,_,_,_,_,_,_,_] [7,0,1,2,3,4,5,6,8,9,10] (by decide) (S7))).cell
  have HZ:=Lib.hid ((Sp.pick [_,_,_,_,_,_,_,_,_,_,_] [0,1,2,3,4,5] (by decide) (S7)))
  clear S4 CR S5 S6 S7 aX hod HV
  gi_wp2
  exact ⟨.tuple #[.bool false,.int .i64 10],by simp [results,Tryz.results12,go_sem,d4,d5],by rw [gq.out],by rw [gq.out];exact HZ.out⟩
 have hb:((od:Int) == 0)=false:=by simp only [beq_eq_false_iff_ne];omega
 have HOD:=Lib.hid hod
 have xK:Hid (Q.step c d=match bZ Q.rows d od Q.ids with
  | some id=>if (Q.load c.ai id).2.2.2=0 then (((Q.load c.ai id).1.write c (Q.load c.ai id).2.1 (Q.load c.ai id).2.2.1).1,false,((Q.load c.ai id).1.write c (Q.load c.ai id).2.1 (Q.load c.ai id).2.2.1).2)
   else if (Q.load c.ai id).2.2.2=20 then ((Q.load c.ai id).1,false,0) else ((Q.load c.ai id).1,false,(Q.load c.ai id).2.2.2)
  | none=>({ Q with D:=(fU Q.D Q.ring d).1,ring:=(fU Q.D Q.ring d).2.1 },decide ((fU Q.D Q.ring d).2.2=0),(fU Q.D Q.ring d).2.2)):=HV.out.trans (if_neg hod)
 have c6:=((Sp.pick [_,_,_,_,_,_,_,_,_,_,_] [10,0,1,2,3,4,5,6,7,8,9] (by decide) (aX.out))).cell
 have c2:=((Sp.pick [_,_,_,_,_,_,_,_,_,_,_] [8,0,1,2,3,4,5,6,7,9,10] (by decide) (aX.out))).cell
 clear hod HV
 gi_wp2_with fail
 refine ⟨trivial,(callsIn_wide.2 (Wn P.s aX.out)).mono ?_⟩
 rintro e w2 ⟨g,rfl,S⟩
 have bI:Hid (Sp w0 [] w2 ((kH (bZ Q.rows d od []=none)::lg P c q2 q3 q4 q5 q6 d od Q false 0 L)++[ae g #[.pointer (some ⟨P.s,0,none⟩)] 26])):=by
  have S2:=(S.pure (q:=bZ Q.rows d od []=none) rfl).ak
  exact S2.perm (List.perm_append_comm (l₁:=[_]))
 clear S aX c2 c6
 obtain ⟨ids,xR⟩:∃ ids,Q.ids=ids:=⟨_,rfl⟩
 have CY:Q.rows.map (·.1)=ids:=xR
 rw [xR] at xK
 have G6:=Lib.hid CY
 have HIB:Hid (∀ id∈ids,id≤1099511627776):=fun id hid=>by
  rw [← CY] at hid
  obtain ⟨p,hp,rfl⟩:=List.mem_map.1 hid
  exact (zD.out.fit p hp).1
 clear xR CY
 gi_wp2_with fail
 refine ku (α:=Nat) (β:=Sq×Int) rfl (by omega) (gf:=71) (lb:=#[.pointer (some ⟨g,0,none⟩)]) rfl trivial (enters_of Tryz.func71 (by kernel_rfl) rfl) (encs:=o8) (fun _=>rfl)
  (A:=fun pre=>kH (bZ Q.rows d od pre=none)::lg P c q2 q3 q4 q5 q6 d od Q false 0 L)
  (K0:=[ae g #[.pointer (some ⟨P.s,0,none⟩)] 26])
  (Y:=fun xs=>xs <+: ids) (T:=fun xs=>xs=ids) ?hseq
  (fun _ y=>lg P c q2 q3 q4 q5 q6 d od y.1 false y.2 L)
  (fun cd y=>cd=.ret∧Q.step c d=(y.1,false,y.2)) bI.out
  (fun x=>{ tmps:=#[.pointer (some ⟨P.s,0,none⟩),.string ⟨d.toArray⟩,.pointer (some ⟨q2,0,none⟩),.pointer (some ⟨q3,0,none⟩),.pointer (some ⟨q4,0,none⟩),.pointer (some ⟨q5,0,none⟩),.pointer (some ⟨q6,0,none⟩),.int .u64 x,undef,undef,undef,undef,undef,.pointer (some ⟨P.s,0,none⟩),.pointer (some ⟨P.s,0,none⟩),.pointer (some ⟨P.s,4,none⟩),.pointer (some ⟨P.r,0,none⟩),.string ⟨d.toArray⟩,.agg #[.int .u64 nw,.int .u64 od],.int .u64 od,.int .u64 od,.bool false,.pointer (some ⟨P.s,0,none⟩),.func (.func 71) #[] #[.pointer (some ⟨g,0,none⟩)],.int .u64 x,undef,undef,undef,undef,undef,undef,undef,undef,undef,undef,undef,undef,undef,undef,undef,undef,undef,undef,undef,undef,undef,undef,undef,undef,undef,undef,undef,undef,undef,undef,undef,undef,undef,undef,undef,undef,undef,undef,undef,undef,undef,undef],defers:=[] }) ?assign ?body ?done ?stop
 case hseq =>
  exact EG P.s g (aA P c.ai Q.last) rfl (by have:=zD.out.len;have:=HN.out;omega) ids G6.out _ _ (kH (bZ Q.rows d od []=none)::aF P.d Q.D::jG P.b Q.B::dP P.l P.d c.step c.most Q.led::bz P.r P.d Q.ring::ae q4 #[.bool false] 4::ae q5 #[.int .i64 0] 27::ae q2 #[.pointer (some ⟨P.s,0,none⟩)] 26::ae q3 #[.string ⟨d.toArray⟩] 9::ae q6 #[.int .u64 od] 34::L) (by
   show (kH (bZ Q.rows d od []=none)::lg P c q2 q3 q4 q5 q6 d od Q false 0 L++[ae g #[.pointer (some ⟨P.s,0,none⟩)] 26]).Perm _
   unfold lg ay
   refine (List.perm_append_comm (l₂:=[_])).trans (List.Perm.cons _ ?_)
   refine (List.perm_middle (l₁:=[_])).trans (List.Perm.cons _ ?_)
   exact (List.perm_middle (l₁:=[_])))
 case assign =>
  intro l x W K hK
  unfold o8
  gi_wp2
  exact hK
 case body =>
  intro l pre x K W hy hS
  have hS':Sp w0 [] W (kH (bZ Q.rows d od pre=none)::lg P c q2 q3 q4 q5 q6 d od Q false 0 (L++K)):=hS
  have Wo:=Lib.hid hS'.sure
  have hS2:=hS'.drop
  unfold lg at hS2
  have hx1:=HIB.out x (hy.subset (by simp))
  have ZJ:=Lib.hid hy
  have hlk:=hS2.ak.Aw.look (t:=88) nJ Tryz.underlying88 (nK _) (oP x (by omega))
  have hr:((Q.rows.get x).map aJ.agg).getD (aJ.agg ⟨[],0,0⟩)=(rowAt Q.rows x).agg:=by unfold rowAt;cases Q.rows.get x <;> rfl
  rw [hr] at hlk
  have ZM:Hid (bZ Q.rows d od [x]=if (rowAt Q.rows x).dom=d∧(rowAt Q.rows x).ep=od then some x else none):=rfl
  have Q5:=Lib.hid (fun (w':World) (K':List aT) (S':Sp w0 [] w' (ay P c Q K'))=>qI x n (by omega) zD.out (by have:=HN.out;omega) HE.out S')
  have h1:=zD.out.load x
  have hlo:(Q.load c.ai x).2.2.2=0→dz (Q.load c.ai x).2.1=true:=fun hz=>by
   obtain ⟨_,hr,e⟩:=EH hz
   rw [e]
   exact (Lh hr).1
  have HW:=Lib.hid (fun (hz:(Q.load c.ai x).2.2.2=0) (w':World) (va:Option Addr) (vc:Nat) (K':List aT) (S':Sp w0 [] w' (ay P c (Q.load c.ai x).1 (dH (.slice va (Q.load c.ai x).2.1.gz.length vc) (Q.load c.ai x).2.1.gz::K'))) =>
   Bq (v:=.slice va (Q.load c.ai x).2.1.gz.length vc) (Q.load c.ai x).2.1 (Q.load c.ai x).2.2.1 (n+404) (bT (hlo hz)).id.2 (bT (hlo hz)).dom (Nv (hlo hz)) h1 (by have:=HN.out;omega) HE.out (fun w2 X SX=>(Sp.drops X SX).kM) S')
  have c2:=((Sp.pick [_,_,_,_,_,_,_,_,_,_,_] [8,0,1,2,3,4,5,6,7,9,10] (by decide) (hS2))).cell
  have c3:=((Sp.pick [_,_,_,_,_,_,_,_,_,_,_] [9,0,1,2,3,4,5,6,7,8,10] (by decide) (hS2))).cell
  have c6:=((Sp.pick [_,_,_,_,_,_,_,_,_,_,_] [10,0,1,2,3,4,5,6,7,8,9] (by decide) (hS2))).cell
  have cs:=hS2.cell
  unfold aA at cs
  generalize hrr:rowAt Q.rows x=rr at *
  obtain ⟨rd,rn,ro⟩:=rr
  unfold aJ.agg at hlk
  dsimp only at *
  have S2:=hS2.new (.cells #[.string ⟨rd.toArray⟩,.int .u64 rn,.int .u64 ro] 107)
  have c2b:=((Sp.pick [_,_,_,_,_,_,_,_,_,_,_] [8,0,1,2,3,4,5,6,7,9,10] (by decide) (S2))).cell
  have c3b:=((Sp.pick [_,_,_,_,_,_,_,_,_,_,_] [9,0,1,2,3,4,5,6,7,8,10] (by decide) (S2))).cell
  have c6b:=((Sp.pick [_,_,_,_,_,_,_,_,_,_,_] [10,0,1,2,3,4,5,6,7,8,9] (by decide) (S2))).cell
  have HS2:=Lib.hid S2
  clear hS hS' hS2 S2 hy hx1 hr h1 hlo hrr
  by_cases hit:rd=d∧rn=od
  rotate_left 1
  ·have hno:bZ Q.rows d od [x]=none:=ZM.out.trans (if_neg hit)
   have HNX:Hid (bZ Q.rows d od (pre++[x])=none):=by unfold Hid;rw [sM _ _ _ _ _ Wo.out];exact hno
   clear hno ZM Q5 HW
   by_cases h1:rd=d
   ·have hb1:(rd == d)=true:=by simpa using h1
    have hb2:((rn:Int) == (od:Int))=false:=by
     have:rn≠od:=fun h=>hit ⟨h1,h⟩
     simp only [beq_eq_false_iff_ne]
     omega
    have hb3:((rn:Int) != (od:Int))=true:=by simp [bne,hb2]
    clear hit h1
    gi_wp2
    show Sp w0 [] _ ((kH (bZ Q.rows d od (pre++[x])=none)::lg P c q2 q3 q4 q5 q6 d od Q false 0 L)++K)
    exact HS2.out.pure HNX.out
   ·have hb1:(rd == d)=false:=by simpa using h1
    clear hit h1
    gi_wp2
    show Sp w0 [] _ ((kH (bZ Q.rows d od (pre++[x])=none)::lg P c q2 q3 q4 q5 q6 d od Q false 0 L)++K)
    exact HS2.out.pure HNX.out
  obtain ⟨rfl,rfl⟩:=hit
  have hb1:(rd == rd)=true:=by simp
  have hb3:((rn:Int) != (rn:Int))=false:=by simp
  have HFO:Hid (bZ Q.rows rd rn ids=some x):=by
   unfold Hid
   obtain ⟨k,hk⟩:=ZJ.out
   rw [← hk,List.append_assoc,sM _ _ _ _ _ Wo.out]
   have:=ZM.out
   rw [if_pos ⟨rfl,rfl⟩] at this
   unfold bZ at this ⊢
   simp only [List.singleton_append]
   unfold bZ
   split at this
   ·rename_i hx
    rw [if_pos hx]
   ·cases this
  rw [HFO.out] at xK
  dsimp only at xK
  gi_wp2_with fail
  refine ⟨trivial,(CallsIn.inRound l (callsIn_wide.2 (Q5.out _ _ HS2.out))).mono ?_⟩
  generalize Q.load c.ai x=lo at *
  obtain ⟨Q2,⟨xi,xd,xe,xc,xf,xr,xb,xn,xt⟩,body,er⟩:=lo
  dsimp only at *
  rintro e w3 ⟨vx,rfl,S⟩
  obtain ⟨va,vc,rfl⟩:=S.kM.form
  unfold eH
  dsimp only
  unfold ay at S
  have S5:=S.box #[.int .u64 xi,.string ⟨xd.toArray⟩,.int .u64 xe,.int .u64 xc,.string ⟨xf.1.toArray⟩,.string ⟨xf.2.toArray⟩,.slice va xr.length vc,.int .u64 xb,.int .u64 xn,.int .i64 xt] 40
  have c9:=S5.cell
  have c2c:=((Sp.pick [_,_,_,_,_,_,_,_,_,_,_,_,_] [10,0,1,2,3,4,5,6,7,8,9,11,12] (by decide) (S5))).cell
  have gB:=Lib.hid ((Sp.pick [_,_,_,_,_,_,_,_,_,_,_,_,_] [2,3,4,5,6,7,1,8,9,10,11,12] (by decide) (S5)))
  clear S S5 HS2 Q5 c2 c3 c6 cs c2b c3b c6b hlk hb1 hb3 Wo ZM HFO ZJ
  by_cases he:er=0
  ·subst he
   rw [if_pos rfl] at xK
   have HW2:=Lib.hid (HW.out rfl)
   clear HW
   generalize Q2.write c ⟨xi,xd,xe,xc,xf,xr,xb,xn,xt⟩ body=wo at *
   obtain ⟨Q3,ew⟩:=wo
   unfold eH at HW2
   dsimp only at *
   gi_wp2_with fail
   refine ⟨trivial,(CallsIn.inRound l (callsIn_wide.2 (HW2.out _ va vc _ gB.out))).mono ?_⟩
   rintro e w4 ⟨rfl,S⟩
   unfold ay at S
   have S4:=(Sp.pick [_,_,_,_,_,_,_,_,_,_,_,_] [7,0,1,2,3,4,5,6,8,9,10,11] (by decide) (S))
   have c4:=S4.cell
   have f4:=S4.free
   have CR:=S4.set (o:=0) (.bool false)
   have S5:=(Sp.pick [_,_,_,_,_,_,_,_,_,_,_,_] [8,0,1,2,3,4,5,6,7,9,10,11] (by decide) (CR))
   have c5:=S5.cell
   have f5:=S5.free
   have S6:=S5.set (o:=0) (.int .i64 ew)
   have S7:=(Sp.pick [_,_,_,_,_,_,_,_,_,_,_,_] [2,3,4,5,6,7,8,1,0,9,10,11] (by decide) (S6))
   have jN:=Lib.hid ((Sp.pick [_,_,_,_,_,_,_,_,_,_,_,_] [0,1,2,3,4,5,7,8,9,10,11] (by decide) (S7)))
   clear S S4 CR S5 S6 S7 gB HW2 c9 c2c
   gi_wp2
   exact ⟨(Q3,ew),⟨rfl,xK.out⟩,jN.out⟩
  ·rw [if_neg he] at xK
   have hb4:((er:Int) == 0)=false:=by simpa using he
   by_cases h20:er=20
   ·subst h20
    rw [if_pos rfl] at xK
    have S4:=(Sp.pick [_,_,_,_,_,_,_,_,_,_,_,_] [7,0,1,2,3,4,5,6,8,9,10,11] (by decide) (gB.out))
    have c4:=S4.cell
    have f4:=S4.free
    have CR:=S4.set (o:=0) (.bool false)
    have S5:=(Sp.pick [_,_,_,_,_,_,_,_,_,_,_,_] [8,0,1,2,3,4,5,6,7,9,10,11] (by decide) (CR))
    have c5:=S5.cell
    have f5:=S5.free
    have S6:=S5.set (o:=0) (.int .i64 0)
    have S7:=(Sp.pick [_,_,_,_,_,_,_,_,_,_,_,_] [2,3,4,5,6,7,8,1,0,9,10,11] (by decide) (S6))
    have jN:=Lib.hid ((Sp.pick [_,_,_,_,_,_,_,_,_,_,_,_] [0,1,2,3,4,5,7,8,9,10,11] (by decide) (S7)))
    clear S4 CR S5 S6 S7 gB HW c9 c2c he
    gi_wp2
    exact ⟨(Q2,0),⟨rfl,xK.out⟩,jN.out⟩
   ·rw [if_neg h20] at xK
    have hb5:((er:Int) == 20)=false:=by simpa using h20
    have S4:=(Sp.pick [_,_,_,_,_,_,_,_,_,_,_,_] [7,0,1,2,3,4,5,6,8,9,10,11] (by decide) (gB.out))
    have c4:=S4.cell
    have f4:=S4.free
    have CR:=S4.set (o:=0) (.bool false)
    have S5:=(Sp.pick [_,_,_,_,_,_,_,_,_,_,_,_] [8,0,1,2,3,4,5,6,7,9,10,11] (by decide) (CR))
    have c5:=S5.cell
    have f5:=S5.free
    have S6:=S5.set (o:=0) (.int .i64 er)
    have S7:=(Sp.pick [_,_,_,_,_,_,_,_,_,_,_,_] [2,3,4,5,6,7,8,1,0,9,10,11] (by decide) (S6))
    have jN:=Lib.hid ((Sp.pick [_,_,_,_,_,_,_,_,_,_,_,_] [0,1,2,3,4,5,7,8,9,10,11] (by decide) (S7)))
    clear S4 CR S5 S6 S7 gB HW c9 c2c he h20
    gi_wp2
    exact ⟨(Q2,er),⟨rfl,xK.out⟩,jN.out⟩
 case done =>
  intro D xs K W hT hS
  subst hT
  have hS':Sp w0 [] W (gY D (.deferred (some []))::kH (bZ Q.rows d od xs=none)::lg P c q2 q3 q4 q5 q6 d od Q false 0 (L++(ae g #[.pointer (some ⟨P.s,0,none⟩)] 26::K))):=hS
  have hnone:=hS'.ak.sure
  rw [hnone] at xK
  dsimp only at xK
  have YB:=Lib.hid (fun (w':World) (K':List aT) (S':Sp w0 [] w' (bz P.r P.d Q.ring::aF P.d Q.D::K'))=>PM d n Q.D S' HD.out (zD.out.sw (by have:=HN.out;omega)) zD.out.room (by have:=HN.out;omega))
  have S2:=hS'.ak.drop
  unfold lg ay at S2
  generalize fU Q.D Q.ring d=rb at *
  obtain ⟨D2,M2,er⟩:=rb
  dsimp only at *
  have HS2:=Lib.hid ((Sp.pick [_,_,_,_,_,_,_,_,_,_,_,_] [6,3,0,1,2,4,5,7,8,9,10,11] (by decide) (S2)))
  clear hS hS' hnone S2 bI G6 HIB
  gi_wp2_with fail
  refine wpIn_wide.2 ?_
  refine aM [0,1,2,3,4,5,6] (fun c=>c == 5) (fun c=>false) (T:=fun wx=>wx.cell? ⟨P.s,4,none⟩=some (.pointer (some ⟨P.r,0,none⟩))∧wx.cell? ⟨q2,0,none⟩=some (.pointer (some ⟨P.s,0,none⟩))∧wx.cell? ⟨q3,0,none⟩=some (.string ⟨d.toArray⟩)) (S:=fun wx=>Sp w0 [] wx (bz P.r P.d Q.ring::aF P.d Q.D::gY D (.deferred (some []))::ae P.s (aA P c.ai Q.last) 90::aY 34 aJ.agg P.m Q.rows::jG P.b Q.B::dP P.l P.d c.step c.most Q.led::ae q4 #[.bool false] 4::ae q5 #[.int .i64 0] 27::ae q2 #[.pointer (some ⟨P.s,0,none⟩)] 26::ae q3 #[.string ⟨d.toArray⟩] 9::ae q6 #[.int .u64 od] 34::(L++(ae g #[.pointer (some ⟨P.s,0,none⟩)] 26::K)))) (by kernel_rfl) (by kernel_rfl) (by kernel_rfl) HS2.out.drew (fun x h=>⟨((Sp.pick [_,_,_,_,_,_,_,_,_,_,_,_] [3] (by decide) (h))).cell 4,((Sp.pick [_,_,_,_,_,_,_,_,_,_,_,_] [9] (by decide) (h))).cell 0,((Sp.pick [_,_,_,_,_,_,_,_,_,_,_,_] [10] (by decide) (h))).cell 0⟩) ?_
  repeat
   refine Exists.intro _ (And.intro rfl (Or.inl (Exists.intro ?_ (And.intro (fun wS hS K hK=>?_) (And.intro ?_ ?_)))))
   rotate_left 1
   ·obtain ⟨t0,t1,t2⟩:=hS
    first
     | (refine ah rfl ?_;simp only [Act.put,List.setIfInBounds_toArray,List.set_cons_zero,List.set_cons_succ];exact hK.out)
     | (refine ag rfl ?_;go_simp;exact hK.out)
   ·rfl
  refine bC.one rfl rfl rfl (fun wS hS R hR=>?_)
  go_simp
  go_at_call 42
  refine (YB.out _ _ hS).mono ?_
  rintro e w7 ⟨rfl,S7⟩
  refine hR.out _ _ rfl (fun wx=>wx.cell? ⟨P.s,4,none⟩=some (.pointer (some ⟨P.r,0,none⟩))∧wx.cell? ⟨q2,0,none⟩=some (.pointer (some ⟨P.s,0,none⟩))∧wx.cell? ⟨q3,0,none⟩=some (.string ⟨d.toArray⟩)) (fun wx=>Sp w0 [] wx (bz P.r P.d M2::aF P.d D2::gY D (.deferred (some []))::ae P.s (aA P c.ai Q.last) 90::aY 34 aJ.agg P.m Q.rows::jG P.b Q.B::dP P.l P.d c.step c.most Q.led::ae q4 #[.bool false] 4::ae q5 #[.int .i64 0] 27::ae q2 #[.pointer (some ⟨P.s,0,none⟩)] 26::ae q3 #[.string ⟨d.toArray⟩] 9::ae q6 #[.int .u64 od] 34::(L++(ae g #[.pointer (some ⟨P.s,0,none⟩)] 26::K)))) S7 (fun x h=>⟨((Sp.pick [_,_,_,_,_,_,_,_,_,_,_,_] [3] (by decide) (h))).cell 4,((Sp.pick [_,_,_,_,_,_,_,_,_,_,_,_] [9] (by decide) (h))).cell 0,((Sp.pick [_,_,_,_,_,_,_,_,_,_,_,_] [10] (by decide) (h))).cell 0⟩) (fun _ h=>h) ?_
  clear hR hS S7
  repeat
   refine Exists.intro _ (And.intro rfl (Or.inl (Exists.intro ?_ (And.intro (fun wS hS K hK=>?_) (And.intro ?_ ?_)))))
   rotate_left 1
   ·obtain ⟨t0,t1,t2⟩:=hS
    first
     | (refine ah rfl ?_;simp only [Act.put,List.setIfInBounds_toArray,List.set_cons_zero,List.set_cons_succ];exact hK.out)
     | (refine ag rfl ?_;go_simp;exact hK.out)
   ·rfl
  intro wE hE
  have aX:=Lib.hid hE
  clear hE
  clear HS2 YB
  by_cases he:er=0
  ·subst he
   have S4:=(Sp.pick [_,_,_,_,_,_,_,_,_,_,_,_] [7,0,1,2,3,4,5,6,8,9,10,11] (by decide) (aX.out))
   have c4:=S4.cell
   have f4:=S4.free
   have CR:=S4.set (o:=0) (.bool true)
   have S5:=(Sp.pick [_,_,_,_,_,_,_,_,_,_,_,_] [8,0,1,2,3,4,5,6,7,9,10,11] (by decide) (CR))
   have c5:=S5.cell
   have f5:=S5.free
   have S6:=S5.set (o:=0) (.int .i64 0)
   have S7:=(Sp.pick [_,_,_,_,_,_,_,_,_,_,_,_] [2,3,4,5,6,7,8,1,0,9,10,11] (by decide) (S6))
   have hK:=((Sp.pick [_,_,_,_,_,_,_,_,_,_,_,_] [2,0,1,3,4,5,6,7,8,9,10,11] (by decide) (S7))).oQ
   have S9:=((Sp.pick [_,_,_,_,_,_,_,_,_,_,_,_] [2,0,1,3,4,5,6,7,8,9,10,11] (by decide) (S7))).mF (.deferred none)
   have d4:=((Sp.pick [_,_,_,_,_,_,_,_,_,_,_,_] [7] (by decide) (S9))).cell
   have d5:=((Sp.pick [_,_,_,_,_,_,_,_,_,_,_,_] [8] (by decide) (S9))).cell
   have h9:=(Sp.pick [_,_,_,_,_,_,_,_,_,_,_,_] [3,4,2,5,6,1] (by decide) (S9))
   have HZ:=Lib.hid (Sp.oh (A:=ay P c { Q with D:=D2,ring:=M2 } L) h9)
   clear h9 S4 CR S5 S6 S7 S9 aX
   gi_wp2
   refine ⟨by simp,.inl ⟨_,_,rfl,run_takeDeferred hK,?_⟩⟩
   exact ⟨.tuple #[.bool true,.int .i64 0],by simp [results,Tryz.results12,go_sem,d4,d5],by rw [xK.out];simp,by rw [xK.out];exact HZ.out⟩
  ·have hb4:((er:Int) != 0)=true:=by simpa using he
   have S4:=(Sp.pick [_,_,_,_,_,_,_,_,_,_,_,_] [7,0,1,2,3,4,5,6,8,9,10,11] (by decide) (aX.out))
   have c4:=S4.cell
   have f4:=S4.free
   have CR:=S4.set (o:=0) (.bool false)
   have S5:=(Sp.pick [_,_,_,_,_,_,_,_,_,_,_,_] [8,0,1,2,3,4,5,6,7,9,10,11] (by decide) (CR))
   have c5:=S5.cell
   have f5:=S5.free
   have S6:=S5.set (o:=0) (.int .i64 er)
   have S7:=(Sp.pick [_,_,_,_,_,_,_,_,_,_,_,_] [2,3,4,5,6,7,8,1,0,9,10,11] (by decide) (S6))
   have hK:=((Sp.pick [_,_,_,_,_,_,_,_,_,_,_,_] [2,0,1,3,4,5,6,7,8,9,10,11] (by decide) (S7))).oQ
   have S9:=((Sp.pick [_,_,_,_,_,_,_,_,_,_,_,_] [2,0,1,3,4,5,6,7,8,9,10,11] (by decide) (S7))).mF (.deferred none)
   have d4:=((Sp.pick [_,_,_,_,_,_,_,_,_,_,_,_] [7] (by decide) (S9))).cell
   have d5:=((Sp.pick [_,_,_,_,_,_,_,_,_,_,_,_] [8] (by decide) (S9))).cell
   have h9:=(Sp.pick [_,_,_,_,_,_,_,_,_,_,_,_] [3,4,2,5,6,1] (by decide) (S9))
   have HZ:=Lib.hid (Sp.oh (A:=ay P c { Q with D:=D2,ring:=M2 } L) h9)
   have QX:=Lib.hid he
   clear h9 S4 CR S5 S6 S7 S9 aX he
   gi_wp2
   refine ⟨by simp,.inl ⟨_,_,rfl,run_takeDeferred hK,?_⟩⟩
   exact ⟨.tuple #[.bool false,.int .i64 er],by simp [results,Tryz.results12,go_sem,d4,d5],by rw [xK.out];simp [QX.out],by rw [xK.out];exact HZ.out⟩
 case stop =>
  rintro D cd y K W ⟨rfl,hq⟩ hS
  obtain ⟨Q3,ew⟩:=y
  have hS':Sp w0 [] W (gY D (.deferred (some []))::lg P c q2 q3 q4 q5 q6 d od Q3 false ew (L++K)):=hS
  have hK:=hS'.oQ
  have S2:=hS'.mF (.deferred none)
  unfold lg ay at S2
  have d4:=((Sp.pick [_,_,_,_,_,_,_,_,_,_,_,_] [7] (by decide) (S2))).cell
  have d5:=((Sp.pick [_,_,_,_,_,_,_,_,_,_,_,_] [8] (by decide) (S2))).cell
  have h9:=(Sp.pick [_,_,_,_,_,_,_,_,_,_,_,_] [1,2,3,4,5,6] (by decide) (S2))
  have HZ:=Lib.hid (Sp.oh (A:=ay P c Q3 L) h9)
  have HQ:=Lib.hid hq
  clear h9 hS hS' S2 bI G6 HIB hq
  gi_wp2
  refine ⟨by simp,.inl ⟨_,_,rfl,run_takeDeferred hK,?_⟩⟩
  exact ⟨.tuple #[.bool false,.int .i64 ew],by simp [results,Tryz.results12,go_sem,d4,d5],by rw [HQ.out],by rw [HQ.out];exact HZ.out⟩
end
end
end Go.Proofs.YtangbdahnmomlaaGreatDoor
