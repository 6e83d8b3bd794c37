/- disk: the methods that do things: Sync, Remove, Rename, Append, Write, Read, Edit, Fuse. Conditions: the lengths fit. disk: Append and Write. -/
import Derived.BigQuiet
import Derived.Deep.QuietTactic
import Derived.Test.YtangbdahnmomlaaGreatDoorBu04
import Derived.Test.YtangbdahnmomlaaGreatDoorBu10
set_option linter.unnecessarySimpa false
set_option linter.unusedSimpArgs false
set_option linter.unusedVariables false
set_option maxHeartbeats 2000000
set_option maxRecDepth 100000
namespace Go.Proofs.YtangbdahnmomlaaGreatDoor
section
open Go.RowKit Go.Maps
def Dk.sync (D:Dk):Dk×Int:=D.done ⟨5,[],[],[]⟩
def Dk.remove (D:Dk) (n:Bs):Dk×Int:=if D.now.has n then D.done ⟨4,n,[],[]⟩ else (D,10)
def Dk.rename (D:Dk) (n t:Bs):Dk×Int:=if D.now.has n then (if may t then D.done ⟨3,n,t,[]⟩ else (D,1)) else (D,10)
def Dk.append (D:Dk) (n d:Bs):Dk×Int:=if D.now.has n then (if D.bL<(D.now.bytes:Int)+d.length then (D,12) else D.done ⟨2,n,[],d⟩) else (D,10)
def Dk.write (D:Dk) (n d:Bs):Dk×Int :=
 if may n then
  if !D.now.has n && decide (200≤D.now.length) then (D,4)
  else if D.bL<(D.now.bytes:Int) - ((D.now.get n).getD []).length+d.length then (D,12)
  else D.done ⟨1,n,[],d⟩
 else (D,1)
def Dk.edit (D:Dk) (n d:Bs):Dk×Int:=if D.now.has n then ({ D with now:=D.now.put n d,sure:=if D.sure.has n then D.sure.put n d else D.sure },0) else (D,10)
structure Dk.Small (D:Dk):Prop where
 eB:D.eB≤9223372036854775807
 trace:D.trace.length<1000000000000
 pend:D.pend.length<1000000000000
 now:D.now.length<1000000000000
 bytes:D.now.bytes<1000000000000000000
theorem IY (F:Fs) (k:Bs):((F.get k).getD []).length≤F.bytes:=by
 unfold Fs.get Fs.bytes
 induction F with
 | nil=>simp
 | cons y r ih =>
  by_cases h:(y.1 == k)=true
  ·simp [h]
  ·simp [h];omega
theorem Dk.Small.fit {D:Dk} (h:D.Small) (e:Ev) (he:e.op=5∨e.op=1∨e.op=2∨e.op=3∨e.op=4) (hn:e.name.length<1000000000000000000) (ht:e.to.length<1000000000000000000) (hd:e.data.length<1000000000000000000):D.Ui e:=by
 have hg:=IY D.now e.name
 have hb:=h.bytes
 refine ⟨h.eB,h.trace,h.pend,by have:=h.now;unfold maxLen;omega,he.elim .inl fun he=>.inr ⟨he,?_,?_,?_⟩⟩
 all_goals (unfold maxLen;omega)
theorem Oy (p:Nat) (F:List Nat) (D:Dk) (w:World) (h:mO w p F D) (hs:D.Small) :
  Calls Tryz.prog 46 #[.pointer (some ⟨p,0,none⟩)] w fun r w2=>r=.returned (.int .i64 D.sync.2)∧rG F w p w2 D.sync.1:=by
 have H:=Lib.hid h
 have HS:=Lib.hid (hs.fit ⟨5,[],[],[]⟩ (by simp) (by simp) (by simp) (by simp))
 clear h hs
 go_enter Tryz.func46,Tryz.ntmps46
 go_wp2_with fail
 refine (rH p F D ⟨5,[],[],[]⟩ _ H.out HS.out).mono ?_
 rintro r w2 ⟨rfl,h2⟩
 have H2:=Lib.hid h2
 clear h2
 go_wp2
 go_ret
 exact ⟨rfl,H2.out⟩
theorem IZ (p:Nat) (F:List Nat) (D:Dk) (n:Bs) (w:World) (h:mO w p F D) (hs:D.Small) (hn:n.length<1000000000000000000) :
  Calls Tryz.prog 50 #[.pointer (some ⟨p,0,none⟩),.string ⟨n.toArray⟩] w fun r w2=>r=.returned (.int .i64 (D.remove n).2)∧rG F w p w2 (D.remove n).1:=by
 have H:=Lib.hid h
 have HS:=Lib.hid (hs.fit ⟨4,n,[],[]⟩ (by simp) hn (by simp) (by simp))
 have hn':n.length≤maxLen:=by unfold maxLen;omega
 clear h hs hn
 unfold Dk.remove
 by_cases hh:D.now.has n=true
 ·rw [if_pos hh]
  go_enter Tryz.func50,Tryz.ntmps50
  go_wp2_with (go_at_call 56;refine (iB p F D n _ H.out hn').mono ?_;rintro r w2 ⟨rfl,rfl⟩)
  refine (rH p F D ⟨4,n,[],[]⟩ _ H.out HS.out).mono ?_
  rintro r w2 ⟨rfl,h2⟩
  have H2:=Lib.hid h2
  clear h2
  go_wp2
  go_ret
  exact ⟨rfl,H2.out⟩
 ·rw [if_neg hh]
  have hh:D.now.has n=false:=by simpa using hh
  go_enter Tryz.func50,Tryz.ntmps50
  go_wp2_with (go_at_call 56;refine (iB p F D n _ H.out hn').mono ?_;rintro r w2 ⟨rfl,rfl⟩)
  go_ret
  exact ⟨rfl,F,H.out,cB.refl F w⟩
theorem Oz (p:Nat) (F:List Nat) (D:Dk) (n:Bs) (w:World) (h:mO w p F D) (hn:n.length≤maxLen) :
  Calls Tryz.prog 59 #[.pointer (some ⟨p,0,none⟩),.string ⟨n.toArray⟩] w fun r w2=>r=.returned (.tuple #[.string ⟨((D.now.get n).getD []).toArray⟩,.int .i64 (if D.now.has n then 0 else 10)])∧w=w2:=by
 have H:=Lib.hid h
 have HN:=Lib.hid hn
 obtain ⟨mn,ms,pv,tv,h,rfl⟩:=h
 obtain ⟨h0,h1,h2,h3,h4,h5,h6⟩:=h.cells
 have hl:=h.now.look (t:=93) Tryz.underlying9 Tryz.underlying9 Tryz.underlying93 (o9 _) n hn
 clear h h1 h2 h3 h4 h5 h6 hn
 by_cases hh:D.now.has n=true
 ·rw [if_pos hh]
  go_enter Tryz.func59,Tryz.ntmps59
  go_wp2_with (go_at_call 56;refine (iB p _ D n _ H.out HN.out).mono ?_;rintro r w2 ⟨rfl,rfl⟩)
  go_ret2
  exact ⟨rfl,rfl⟩
 ·rw [if_neg hh]
  have hh:D.now.has n=false:=by simpa using hh
  have hg:(D.now.get n).getD []=[]:=by
   rw [Fs.has_eq] at hh
   cases hx:D.now.get n <;> simp_all
  rw [hg]
  clear hg hl
  go_enter Tryz.func59,Tryz.ntmps59
  go_wp2_with (go_at_call 56;refine (iB p _ D n _ H.out HN.out).mono ?_;rintro r w2 ⟨rfl,rfl⟩)
  go_ret2
  exact ⟨rfl,rfl⟩
theorem I1 (p:Nat) (F:List Nat) (D:Dk) (n t:Bs) (w:World) (h:mO w p F D) (hs:D.Small) (hn:n.length<1000000000000000000) (ht:t.length<1000000000000000000) :
  Calls Tryz.prog 98 #[.pointer (some ⟨p,0,none⟩),.string ⟨n.toArray⟩,.string ⟨t.toArray⟩] w fun r w2=>r=.returned (.int .i64 (D.rename n t).2)∧rG F w p w2 (D.rename n t).1:=by
 have H:=Lib.hid h
 have HS:=Lib.hid (hs.fit ⟨3,n,t,[]⟩ (by simp) hn ht (by simp))
 have hn':n.length≤maxLen:=by unfold maxLen;omega
 have ht':t.length≤maxLen:=by unfold maxLen;omega
 clear h hs hn ht
 unfold Dk.rename
 by_cases hh:D.now.has n=true
 ·rw [if_pos hh]
  by_cases hm:may t=true
  ·rw [if_pos hm]
   go_enter Tryz.func98,Tryz.ntmps98
   go_wp2_with (first | (go_at_call 56;refine (iB p F D n _ H.out hn').mono ?_;rintro r w2 ⟨rfl,rfl⟩) | (go_at_call 94;refine (sZ t _ ht').mono ?_;rintro r w2 ⟨rfl,rfl⟩))
   refine (rH p F D ⟨3,n,t,[]⟩ _ H.out HS.out).mono ?_
   rintro r w2 ⟨rfl,h2⟩
   have H2:=Lib.hid h2
   clear h2
   go_wp2
   go_ret
   exact ⟨rfl,H2.out⟩
  ·rw [if_neg hm]
   have hm:may t=false:=by simpa using hm
   go_enter Tryz.func98,Tryz.ntmps98
   go_wp2_with (first | (go_at_call 56;refine (iB p F D n _ H.out hn').mono ?_;rintro r w2 ⟨rfl,rfl⟩) | (go_at_call 94;refine (sZ t _ ht').mono ?_;rintro r w2 ⟨rfl,rfl⟩))
   go_ret
   exact ⟨rfl,F,H.out,cB.refl F w⟩
 ·rw [if_neg hh]
  have hh:D.now.has n=false:=by simpa using hh
  go_enter Tryz.func98,Tryz.ntmps98
  go_wp2_with (first | (go_at_call 56;refine (iB p F D n _ H.out hn').mono ?_;rintro r w2 ⟨rfl,rfl⟩))
  go_ret
  exact ⟨rfl,F,H.out,cB.refl F w⟩
theorem OA (p:Nat) (F:List Nat) (D:Dk) (n d:Bs) (w:World) (h:mO w p F D) (hs:D.now.length<1000000000000) (hs2:D.sure.length<1000000000000) (hn:n.length≤maxLen) (hd:d.length≤maxLen) :
  Calls Tryz.prog 32 #[.pointer (some ⟨p,0,none⟩),.string ⟨n.toArray⟩,.string ⟨d.toArray⟩] w fun r w2=>r=.returned (.int .i64 (D.edit n d).2)∧rG F w p w2 (D.edit n d).1:=by
 have H:=Lib.hid h
 have HN:=Lib.hid hn
 unfold Dk.edit
 by_cases hh:D.now.has n=true
 ·rw [if_pos hh]
  obtain ⟨mn,ms,pv,tv,h,rfl⟩:=h
  obtain ⟨w1,hr1,hm1,hx1,hz1⟩:=h.now.update (t:=93) Tryz.underlying9 Tryz.underlying9 Tryz.underlying93 (by unfold maxLen;omega) n d hn hd
  have hA:=h.Uh hx1 hm1
  have hl:=hA.sure.ou (t:=93) Tryz.underlying9 Tryz.underlying9 Tryz.underlying93 (o9 _) n hn
  obtain ⟨w2,hr2,hm2,hx2,hz2⟩:=hA.sure.update (t:=93) Tryz.underlying9 Tryz.underlying9 Tryz.underlying93 (by unfold maxLen;simp only;omega) n d hn hd
  have hB:=hA.Va hx2 hm2
  have HA:=Lib.hid hA
  have HB:=Lib.hid hB
  have BJ:=Lib.hid hx1
  have yu:=Lib.hid hx2
  obtain ⟨h0,h1,h2,h3,h4,h5,h6⟩:=h.cells
  obtain ⟨k0,k1,k2,k3,k4,k5,k6⟩:=hA.cells
  clear h h1 h2 h3 h4 h5 h6 k0 k2 k3 k4 k5 k6 hA hB hx1 hx2 hm1 hm2 hz1 hz2 hs hs2 hn hd
  by_cases hq:D.sure.has n=true
  ·rw [if_pos hq]
   go_enter Tryz.func32,Tryz.ntmps32
   go_wp2_with (go_at_call 56;refine (iB p _ D n _ H.out HN.out).mono ?_;rintro r w2 ⟨rfl,rfl⟩)
   go_ret
   exact ⟨rfl,_,⟨mn,ms,pv,tv,HB.out,rfl⟩,(cB.iV (BJ.out.mono (by simp [bf]))).trans (cB.iV (yu.out.mono (by simp [bf])))⟩
  ·rw [if_neg hq]
   have hq:D.sure.has n=false:=by simpa using hq
   clear hr2
   go_enter Tryz.func32,Tryz.ntmps32
   go_wp2_with (go_at_call 56;refine (iB p _ D n _ H.out HN.out).mono ?_;rintro r w2 ⟨rfl,rfl⟩)
   go_ret
   exact ⟨rfl,_,⟨mn,ms,pv,tv,HA.out,rfl⟩,cB.iV (BJ.out.mono (by simp [bf]))⟩
 ·rw [if_neg hh]
  have hh:D.now.has n=false:=by simpa using hh
  clear hs hs2 hn hd h
  go_enter Tryz.func32,Tryz.ntmps32
  go_wp2_with (go_at_call 56;refine (iB p F D n _ H.out HN.out).mono ?_;rintro r w2 ⟨rfl,rfl⟩)
  go_ret
  exact ⟨rfl,F,H.out,cB.refl F w⟩
end
section
open Go.RowKit Go.Maps
theorem I4 (p:Nat) (F:List Nat) (D:Dk) (n d:Bs) (w:World) (h:mO w p F D) (hs:D.Small) (hn:n.length<1000000000000000000) (hd:d.length<1000000000000000000) :
  Calls Tryz.prog 78 #[.pointer (some ⟨p,0,none⟩),.string ⟨n.toArray⟩,.string ⟨d.toArray⟩] w fun r w2=>r=.returned (.int .i64 (D.append n d).2)∧rG F w p w2 (D.append n d).1:=by
 have H:=Lib.hid h
 have HS:=Lib.hid (hs.fit ⟨2,n,[],d⟩ (by simp) hn (by simp) hd)
 have hn':n.length≤maxLen:=by unfold maxLen;omega
 have hb:D.now.bytes≤9223372036854775807:=by have:=hs.bytes;omega
 have hb0:(0:Int)≤(D.now.bytes:Int)+d.length:=by omega
 have hb1:(D.now.bytes:Int)+d.length≤9223372036854775807:=by have:=hs.bytes;omega
 have hS:∀ w2,Ext [] w w2→w2.cell? ⟨p,4,none⟩=some (.int .i64 D.bL):=by
  intro w2 hx
  obtain ⟨mn,ms,pv,tv,h,rfl⟩:=h
  exact (h.ext hx (by simp)).cells.2.2.2.2.1
 have HC:=Lib.hid hS
 clear h hs hn hd hS
 unfold Dk.append
 by_cases hh:D.now.has n=true
 ·rw [if_pos hh]
  by_cases hq:D.bL<(D.now.bytes:Int)+d.length
  ·rw [if_pos hq]
   go_enter Tryz.func78,Tryz.ntmps78
   go_wp2_with (first | (go_at_call 56;refine (iB p F D n _ H.out hn').mono ?_;rintro r w2 ⟨rfl,rfl⟩))
   have hw:=IntWalk.i64_in ((D.now.bytes:Int)+d.length) (by omega)
   go_region_held3 (fun w'=>w'.cell? ⟨p,4,none⟩=some (.int .i64 D.bL))
    (first | exact HC.out _ hx1.out | exact HC.out _ (Ext.refl [] w).drew)
    ((go_at_call 95;refine (vL p F D _ H.out.drew hb).mono ?_;rintro r w1 ⟨rfl,hx0⟩;have hx1:=Lib.hid ((Ext.refl [] w).drew.trans hx0 (by simp));clear hx0))
   clear hw
   go_wp2
   go_ret
   exact ⟨rfl,F,H.out.ext hx1.out (by simp),cB.xu hx1.out⟩
  ·rw [if_neg hq]
   go_enter Tryz.func78,Tryz.ntmps78
   go_wp2_with (first | (go_at_call 56;refine (iB p F D n _ H.out hn').mono ?_;rintro r w2 ⟨rfl,rfl⟩))
   have hw:=IntWalk.i64_in ((D.now.bytes:Int)+d.length) (by omega)
   go_region_held3 (fun w'=>w'.cell? ⟨p,4,none⟩=some (.int .i64 D.bL))
    (first | exact HC.out _ hx1.out | exact HC.out _ (Ext.refl [] w).drew)
    ((go_at_call 95;refine (vL p F D _ H.out.drew hb).mono ?_;rintro r w1 ⟨rfl,hx0⟩;have hx1:=Lib.hid ((Ext.refl [] w).drew.trans hx0 (by simp));clear hx0))
   clear hw
   go_wp2_with fail
   refine (rH p F D ⟨2,n,[],d⟩ _ (H.out.ext hx1.out (by simp)) HS.out).mono ?_
   rintro r w2 ⟨rfl,F2,h2,m2⟩
   have H2:=Lib.hid h2
   have M2:=Lib.hid m2
   clear h2 m2
   go_wp2
   go_ret
   exact ⟨rfl,F2,H2.out,(cB.xu hx1.out).trans M2.out⟩
 ·rw [if_neg hh]
  have hh:D.now.has n=false:=by simpa using hh
  go_enter Tryz.func78,Tryz.ntmps78
  go_wp2_with (go_at_call 56;refine (iB p F D n _ H.out hn').mono ?_;rintro r w2 ⟨rfl,rfl⟩)
  go_ret
  exact ⟨rfl,F,H.out,cB.refl F w⟩
theorem Mc (p:Nat) (F:List Nat) (D:Dk) (n d:Bs) (w:World) (h:mO w p F D) (hs:D.Small) (hn:n.length<1000000000000000000) (hd:d.length<1000000000000000000) :
  Calls Tryz.prog 61 #[.pointer (some ⟨p,0,none⟩),.string ⟨n.toArray⟩,.string ⟨d.toArray⟩] w fun r w2=>r=.returned (.int .i64 (D.write n d).2)∧rG F w p w2 (D.write n d).1:=by
 have H:=Lib.hid h
 have HS:=Lib.hid (hs.fit ⟨1,n,[],d⟩ (by simp) hn (by simp) hd)
 have hn':n.length≤maxLen:=by unfold maxLen;omega
 have hb:D.now.bytes≤9223372036854775807:=by have:=hs.bytes;omega
 have hg:=IY D.now n
 have hb0:(0:Int)≤(D.now.bytes:Int) - ((D.now.get n).getD []).length:=by omega
 have hb1:(D.now.bytes:Int) - ((D.now.get n).getD []).length+d.length≤9223372036854775807:=by have:=hs.bytes;omega
 obtain ⟨mn,ms,pv,tv,h,rfl⟩:=h
 have hl:∀ w2,Ext [] w w2→w2.cell? ⟨p,0,none⟩=some (.map (some mn))∧w2.cell? ⟨p,4,none⟩=some (.int .i64 D.bL)∧(Instr.lookup 93 (.map (some mn)) (.string ⟨n.toArray⟩) false).run Tryz.prog w2=.ok (.string ⟨((D.now.get n).getD []).toArray⟩) w2:=by
  intro w2 hx
  have h':=h.ext hx (by simp)
  exact ⟨h'.cells.1,h'.cells.2.2.2.2.1,h'.now.look (t:=93) Tryz.underlying9 Tryz.underlying9 Tryz.underlying93 (o9 _) n hn'⟩
 have HC:=Lib.hid hl
 have hc0:=h.cells.1
 have hlen:=fun ty=>h.now.len (t:=93) Tryz.underlying93 ty
 clear h hs hn hd hl hg
 unfold Dk.write
 by_cases hm:may n=true
 ·rw [if_pos hm]
  by_cases hc:(!D.now.has n && decide (200≤D.now.length))=true
  ·rw [if_pos hc]
   simp only [Bool.and_eq_true,Bool.not_eq_true',decide_eq_true_eq] at hc
   obtain ⟨hh,h200⟩:=hc
   have abZ:(200:Int)≤D.now.length:=by omega
   go_enter Tryz.func61,Tryz.ntmps61
   go_wp2_with (first | (go_at_call 56;refine (iB p _ D n _ H.out hn').mono ?_;rintro r w2 ⟨rfl,rfl⟩) | (go_at_call 94;refine (sZ n _ hn').mono ?_;rintro r w2 ⟨rfl,rfl⟩))
   go_ret
   exact ⟨rfl,_,H.out,cB.refl _ w⟩
  ·rw [if_neg hc]
   generalize (D.now.get n).getD []=old at *
   have hcase:D.now.has n=true∨(D.now.has n=false∧(D.now.length:Int)<200):=by
    cases hh:D.now.has n
    ·right;simp [hh] at hc;exact ⟨rfl,by omega⟩
    ·left;rfl
   clear hc
   rcases hcase with hh | ⟨hh,h200⟩
   all_goals
    by_cases hq:D.bL<(D.now.bytes:Int) - old.length+d.length
    ·rw [if_pos hq]
     go_enter Tryz.func61,Tryz.ntmps61
     go_upto_region 5 with (first | (go_at_call 56;refine (iB p _ D n _ H.out hn').mono ?_;rintro r w2 ⟨rfl,rfl⟩) | (go_at_call 94;refine (sZ n _ hn').mono ?_;rintro r w2 ⟨rfl,rfl⟩))
     go_cut [24] (fun b wx=>b=.bool true∧Ext [] w wx)
     case first =>
      have hw1:=IntWalk.i64_in ((D.now.bytes:Int) - old.length) (by omega)
      have hw2:=IntWalk.i64_in ((D.now.bytes:Int) - old.length+d.length) (by omega)
      go_region_held3 (fun w'=>w'.cell? ⟨p,0,none⟩=some (.map (some mn))∧w'.cell? ⟨p,4,none⟩=some (.int .i64 D.bL)∧(Instr.lookup 93 (.map (some mn)) (.string ⟨n.toArray⟩) false).run Tryz.prog w'=.ok (.string ⟨old.toArray⟩) w')
       (first | exact HC.out _ hx1.out | exact HC.out _ (Ext.refl [] w).drew)
       ((go_at_call 95;refine (vL p _ D _ H.out.drew hb).mono ?_;rintro r w1 ⟨rfl,hx0⟩;have hx1:=Lib.hid ((Ext.refl [] w).drew.trans hx0 (by simp));clear hx0))
      all_goals (go_wp2_with fail;go_meet;exact ⟨rfl,hx1.out⟩)
     case rest =>
      obtain ⟨rfl,hx1⟩:=hcut
      have HX:=Lib.hid hx1
      clear hx1
      go_wp2
      go_ret
      exact ⟨rfl,_,H.out.ext HX.out (by simp),cB.xu HX.out⟩
    ·rw [if_neg hq]
     go_enter Tryz.func61,Tryz.ntmps61
     go_upto_region 5 with (first | (go_at_call 56;refine (iB p _ D n _ H.out hn').mono ?_;rintro r w2 ⟨rfl,rfl⟩) | (go_at_call 94;refine (sZ n _ hn').mono ?_;rintro r w2 ⟨rfl,rfl⟩))
     go_cut [24] (fun b wx=>b=.bool false∧Ext [] w wx)
     case first =>
      have hw1:=IntWalk.i64_in ((D.now.bytes:Int) - old.length) (by omega)
      have hw2:=IntWalk.i64_in ((D.now.bytes:Int) - old.length+d.length) (by omega)
      go_region_held3 (fun w'=>w'.cell? ⟨p,0,none⟩=some (.map (some mn))∧w'.cell? ⟨p,4,none⟩=some (.int .i64 D.bL)∧(Instr.lookup 93 (.map (some mn)) (.string ⟨n.toArray⟩) false).run Tryz.prog w'=.ok (.string ⟨old.toArray⟩) w')
       (first | exact HC.out _ hx1.out | exact HC.out _ (Ext.refl [] w).drew)
       ((go_at_call 95;refine (vL p _ D _ H.out.drew hb).mono ?_;rintro r w1 ⟨rfl,hx0⟩;have hx1:=Lib.hid ((Ext.refl [] w).drew.trans hx0 (by simp));clear hx0))
      all_goals (go_wp2_with fail;go_meet;exact ⟨by simp [hq],hx1.out⟩)
     case rest =>
      obtain ⟨rfl,hx1⟩:=hcut
      have HX:=Lib.hid hx1
      clear hx1
      go_wp2_with fail
      refine (rH p _ D ⟨1,n,[],d⟩ _ (H.out.ext HX.out (by simp)) HS.out).mono ?_
      rintro r w2 ⟨rfl,F2,h2,m2⟩
      have H2:=Lib.hid h2
      have M2:=Lib.hid m2
      clear h2 m2
      go_wp2
      go_ret
      exact ⟨rfl,F2,H2.out,(cB.xu HX.out).trans M2.out⟩
 ·rw [if_neg hm]
  have hm:may n=false:=by simpa using hm
  go_enter Tryz.func61,Tryz.ntmps61
  go_wp2_with (go_at_call 94;refine (sZ n _ hn').mono ?_;rintro r w2 ⟨rfl,rfl⟩)
  go_ret
  exact ⟨rfl,_,H.out,cB.refl _ w⟩
end
section
open Go.RowKit Go.Maps
def Dk.new:Dk:=⟨[],[],[],[],1048576,-1,false⟩
theorem RB (w:World):Calls Tryz.prog 8 #[] w fun r w2=>∃ p F,r=.returned (.pointer (some ⟨p,0,none⟩))∧mO w2 p F Dk.new∧Ext [] w w2∧∀ x∈F,w.heap.size≤x:=by
 have hmm:=@run_makeMap Tryz.prog
 go_enter Tryz.func8,Tryz.ntmps8
 go_wp2
 go_ret
 refine ⟨w.heap.size+2,_,rfl,⟨w.heap.size,w.heap.size+1,.slice none 0 0,.slice none 0 0,⟨?_,?_,?_,World.ownsRow_nil _ _ _ _,World.ownsRow_nil _ _ _ _,?_⟩,rfl⟩,(((Ext.refl [] w).alloc _).alloc _).alloc _,?_⟩
 ·have:=heap_alloc_new ((w.alloc (.map #[] 0)).alloc (.map #[] 0)) (.cells (kQ w.heap.size (w.heap.size+1) (.slice none 0 0) (.slice none 0 0) 1048576 (-1) false) 95 (0,0))
  rw [show ((w.alloc (.map #[] 0)).alloc (.map #[] 0)).heap.size=w.heap.size+2 by simp] at this
  exact this
 ·exact ((MapAt.made w).ext ((Ext.refl [] _).alloc _) (by simp)).ext ((Ext.refl [] _).alloc _) (by simp)
 ·have:=MapAt.made (P:=Tryz.prog) (k:=9) (e:=9) (w.alloc (.map #[] 0))
  rw [show (w.alloc (.map #[] 0)).heap.size=w.heap.size+1 by simp] at this
  exact this.ext ((Ext.refl [] _).alloc _) (by simp)
 ·simp [bf,Value.ownBlock]
 ·simp [bf,Value.ownBlock]
end
section
open Go.RowKit Go.Maps
def Dk.replay (D:Dk) (k:Nat):Fs:=(D.pend.take k).foldl Fs.did D.sure
end
section
open Go.RowKit Go.Maps Go.Sort
def Fs.names (F:Fs) (pre:Bs):List Bs:=(F.map (·.1)).filter fun k=>pre.isPrefixOf k
theorem DK {F:Fs} (h:F.Pairwise fun p q=>bytesBefore p.1 q.1=true) (pre:Bs):(F.names pre).Pairwise fun x y=>x≤y:=by
 unfold Fs.names
 refine List.Pairwise.filter _ ?_
 rw [List.pairwise_map]
 induction F with
 | nil=>exact List.Pairwise.nil
 | cons x r ih =>
  rw [List.pairwise_cons] at h ⊢
  refine ⟨fun p hp=>?_,ih h.2⟩
  have:=h.1 p hp
  rw [jd] at this
  exact List.le_of_lt (of_decide_eq_true this)
theorem FF (F:Fs) (pre:Bs):(F.names pre).length≤F.length:=by
 unfold Fs.names
 refine Nat.le_trans (List.length_filter_le _ _) ?_
 simp
theorem RD:(Tryz.prog.info? 9).map (fun i=>(i.zero,i.size,i.bytes))=some (some (.string ⟨#[]⟩),1,16):=by kernel_rfl
theorem I5 (w:World) (v:Value) (l:List Bs) (x:Bs) (h:Strs w v l) (hl:l.length<1000000000000) :
  ∃ g cap w1,(∀ ty,(Builtin.append_ #[23,23] ty #[v,.slice (some ⟨w.heap.size,0,none⟩) 1 1]).run Tryz.prog (w.alloc (.cells #[.string ⟨x.toArray⟩] 9))=.ok (.slice (some ⟨g,0,none⟩) (l.length+1) cap) w1) ∧
   Strs w1 (.slice (some ⟨g,0,none⟩) (l.length+1) cap) (l++[x])∧Ext v.ownBlock.toList w w1∧(v.ownBlock=some g∨w.heap.size≤g):=by
 obtain ⟨i0,hi0,hz0,hz1,hz2⟩:=info_parts RD
 have hx:Ext [] w (w.alloc (.cells #[.string ⟨x.toArray⟩] 9)):=(Ext.refl [] w).alloc _
 obtain ⟨g,cap,w1,hr,ho,hg,hat,_⟩:=run_append_lies (P:=Tryz.prog) (w.alloc (.cells #[.string ⟨x.toArray⟩] 9)) 23 0 0 9 i0 _ 1 16 Tryz.underlying23 hi0 hz0 hz1 hz2 rfl (by omega) v l.length (l.map encStr) (fF h hx (by simp))
  ⟨w.heap.size,0,none⟩ 1 1 [encStr x] rfl (World.news_of_block (cs:=#[encStr x]) (t:=9) (fr:=(0,0)) (heap_alloc_new _ _)) (by simp [Value.oneCell']) (by omega) (by unfold maxLen;omega) (by omega) (Nat.zero_le _) _ rfl
 refine ⟨g,cap,w1,fun _=>hr,?_,(hx.mono (by simp)).grown hg (fun k hk=>by simp [hk]),hat.elim .inl (fun e=>.inr (by simp at e;omega))⟩
 show w1.ownsRow 0 9 1 _ (l++[x]).length ((l++[x]).map encStr)
 rw [List.length_append,List.map_append]
 exact ho
theorem OB (p:Nat) (F:List Nat) (D:Dk) (pre:Bs) (w:World) (h:mO w p F D) (hl:D.now.length<1000000000000) :
  Calls Tryz.prog 47 #[.pointer (some ⟨p,0,none⟩),.string ⟨pre.toArray⟩] w fun r w2=>∃ v,r=.returned v∧Strs w2 v (D.now.names pre)∧Ext [] w w2∧∀ k,v.ownBlock=some k→w.heap.size≤k:=by
 obtain ⟨mn,ms,pv,tv,h,rfl⟩:=h
 obtain ⟨h0,h1,h2,h3,h4,h5,h6⟩:=h.cells
 obtain ⟨w0,RA,hrun,hR0,hx0,hs0⟩:=h.now.range (t:=93) Tryz.underlying9 Tryz.underlying93
 have XC:=Lib.hid (DK (h.now.sorted Tryz.underlying9) pre)
 have Z7:=Lib.hid hR0
 have HX0:=Lib.hid hx0
 have HL:=Lib.hid hl
 have HN:=Lib.hid h.now.lt
 clear h1 h2 h3 h4 h5 h6 h hR0 hx0 hs0 hl
 go_enter Tryz.func47,Tryz.ntmps47
 go_wp2
 go_loopw [5] (fun v wr=>∃ L cnt acc,iC Tryz.prog 9 9 wr mn w.heap.size D.now L cnt∧Strs wr v acc∧(acc++L.names pre).Perm (D.now.names pre)∧Ext [] w wr∧(∀ k,v.ownBlock=some k→w.heap.size<k)) (fun _ wr=>wr.rangeLeft mn w.heap.size)
 case atStart=>exact ⟨D.now,RA,[],Z7.out,World.ownsRow_nil _ _ _ _,by simp,HX0.out,by simp [Value.ownBlock]⟩
 case round =>
  obtain ⟨L,cnt,acc,hR,hS,hP,hx,hv⟩:=hrel
  have HR:=Lib.hid hR
  have HS:=Lib.hid hS
  have HP:=Lib.hid hP
  have HX:=Lib.hid hx
  have HV:=Lib.hid hv
  rcases hR.next Tryz.underlying9 Tryz.underlying9 with ⟨rfl,hn⟩ | ⟨x,c,w1,L1,cnt1,hp,hm,hx1,hc1,hn,XB,hlt,WR,hsz,hen⟩
  ·clear hR hS hP hx hv
   have hal:acc.length<4611686018427387904:=by
    have h1:=HP.out.length_eq
    have h2:=FF D.now pre
    have h3:=HL.out
    rw [List.length_append] at h1
    omega
   have Uj:Hid (uf acc=D.now.names pre):=IC (by simpa [Fs.names] using HP.out) XC.out
   go_wp2_with fail
   refine (LQ u5 acc _ HS.out hal).mono ?_
   rintro r w2 ⟨rfl,hs2,hx2⟩
   have HS2:=Lib.hid hs2
   have yu:=Lib.hid hx2
   clear hs2 hx2
   go_wp2
   go_ret
   refine ⟨_,rfl,by rw [← Uj.out];exact HS2.out,HX.out.trans yu.out (fun k hk=>.inr (by have:=HV.out k (by simpa using hk);omega)),fun k hk=>by have:=HV.out k hk;omega⟩
  ·have Aq:Hid ((L.names pre).Perm ((if pre.isPrefixOf x then [x] else [])++Fs.names L1 pre)):=by
    unfold Fs.names Hid
    refine ((hp.map _).filter _).trans ?_
    rw [List.map_cons,List.filter_cons]
    split <;> simp
   have HR1:=Lib.hid XB
   have BJ:Hid (Ext [] w w1):=hx.trans WR (by simp)
   have xB:=Lib.hid hlt
   have bX:Hid (Strs w1 u5 acc):=fF hS WR (fun k hk=>by have:=hv k hk;simp;omega)
   clear hR hS hP hx hv XB hlt WR hp hm hx1 hc1 hsz
   have hcon:=Tryz.strings_HasPrefix ⟨x.toArray⟩ ⟨pre.toArray⟩ w1
   rw [show Lib.hasPrefix (ByteArray.mk x.toArray).data.toList (ByteArray.mk pre.toArray).data.toList=pre.isPrefixOf x from rfl] at hcon
   have XD:=Lib.hid hcon
   clear hcon
   by_cases hpre:pre.isPrefixOf x=true
   ·have hal:acc.length<1000000000000:=by
     have h1:=HP.out.length_eq
     have h2:=FF D.now pre
     have h3:=HL.out
     rw [List.length_append] at h1
     omega
    obtain ⟨g,cap,w2,hr,hs2,hx2,hat⟩:=I5 w1 u5 acc x bX.out hal
    have HRR:=Lib.hid hr
    have HS2:=Lib.hid hs2
    have yu:Hid (Ext [] w w2):=BJ.out.trans hx2 (fun k hk=>.inr (by have:=HV.out k (by simpa using hk);omega))
    have hnm:mn∉u5.ownBlock.toList:=fun hk=>by have:=HV.out mn (by simpa using hk);have:=HN.out;omega
    have hnr:w.heap.size∉u5.ownBlock.toList:=fun hk=>by have:=HV.out _ (by simpa using hk);omega
    have HR2:Hid (iC Tryz.prog 9 9 w2 mn w.heap.size D.now L1 cnt1):=HR1.out.ext hx2 hnm hnr
    have HAT:Hid (w.heap.size<g):=hat.elim (fun e=>HV.out g e) (fun e=>by have:=HR1.out.lt;unfold Hid;omega)
    have xm:Hid ((acc++[x]++Fs.names L1 pre).Perm (D.now.names pre)):=by
     have h1:=Aq.out
     rw [if_pos hpre] at h1
     rw [List.append_assoc]
     exact (h1.symm.append_left acc).trans HP.out
    have hpre':Hid (pre.isPrefixOf x=true):=hpre
    have hc2:=XD.out
    rw [hpre] at hc2
    have nQ:=Lib.hid hc2
    clear hr hs2 hx2 hat hal hnm hnr hc2 hpre
    go_wp2_with (first | (go_at_call 81;refine nQ.out.mono ?_;rintro r wz ⟨rfl,rfl⟩) | (at_builtin;go_must (refine wpList_append_run (by rfl) (by rfl) (by rfl) (by rfl) (HRR.out _) ?_)))
    go_roundw
    case rel=>exact ⟨L1,cnt1,acc++[x],HR2.out,HS2.out,xm.out,yu.out,fun k hk=>by simp [Value.ownBlock] at hk;subst hk;exact HAT.out⟩
    case measure=>rw [HR.out.left_eq,HR2.out.left_eq];exact xB.out
   ·have hpre:pre.isPrefixOf x=false:=Bool.eq_false_iff.2 hpre
    have xm:Hid ((acc++Fs.names L1 pre).Perm (D.now.names pre)):=by
     have h1:=Aq.out
     rw [if_neg (by simp [hpre])] at h1
     exact (h1.symm.append_left acc).trans HP.out
    have hc2:=XD.out
    rw [hpre] at hc2
    have nQ:=Lib.hid hc2
    clear hc2 hpre
    go_wp2_with (first | (go_at_call 81;refine nQ.out.mono ?_;rintro r wz ⟨rfl,rfl⟩))
    go_roundw
    case rel=>exact ⟨L1,cnt1,acc,HR1.out,bX.out,xm.out,BJ.out,HV.out⟩
    case measure=>rw [HR.out.left_eq,HR1.out.left_eq];exact xB.out
end
section
open Go.RowKit Go.Maps
theorem nX {x p:Bs×Bs}:∀ {F:Fs},p∈Fs.ins x F↔p=x∨p∈F
 | []=>by simp [Fs.ins]
 | y::r=>by
  unfold Fs.ins
  split
  ·simp
  ·simp only [List.mem_cons,nX (F:=r)]
   constructor
   ·rintro (h | h | h) <;> simp [h]
   ·rintro (h | h | h) <;> simp [h]
theorem jf (x:Bs×Bs):∀ F:Fs,(Fs.ins x F).length=F.length+1
 | []=>rfl
 | y::r=>by
  unfold Fs.ins
  split
  ·rfl
  ·simp [jf x r]
theorem RF {F:Fs} {k:Bs} {p:Bs×Bs}:p∈F.del k↔p∈F∧p.1≠k:=by simp [Fs.del]
theorem oF (F:Fs) (k:Bs):(F.del k).length≤F.length:=List.length_filter_le _ _
theorem dB (F:Fs) (k v:Bs):(F.put k v).length≤F.length+1:=by
 unfold Fs.put
 rw [jf]
 have:=oF F k
 omega
theorem uh (F:Fs) (e:Ev):(F.did e).length≤F.length+1:=by
 unfold Fs.did
 split
 ·exact dB _ _ _
 ·split
  ·exact dB _ _ _
  ·split
   ·have h1:=dB (F.del e.name) e.to ((F.get e.name).getD [])
    have h2:=oF F e.name
    omega
   ·split
    ·have:=oF F e.name;omega
    ·omega
end
section
open Go.RowKit Go.Maps
theorem kS (x:Bs×Bs) (F:Fs):Fs.bytes (x::F)=x.2.length+Fs.bytes F:=by simp [Fs.bytes]
theorem pW (x:Bs×Bs):∀ F:Fs,(Fs.ins x F).bytes=x.2.length+F.bytes
 | []=>by simp [Fs.ins,Fs.bytes]
 | y::r=>by
  unfold Fs.ins
  split
  ·simp [Fs.bytes]
  ·rw [kS,pW x r,kS];omega
theorem lD (F:Fs) (k:Bs):(F.del k).bytes+((F.get k).getD []).length≤F.bytes:=by
 unfold Fs.del Fs.get
 induction F with
 | nil=>simp [Fs.bytes]
 | cons y r ih =>
  have hle:∀ r:Fs,Fs.bytes (r.filter fun p => !(p.1 == k))≤Fs.bytes r:=by
   intro r
   induction r with
   | nil=>simp [Fs.bytes]
   | cons z t ih2 =>
    rw [List.filter_cons,kS]
    split
    ·rw [kS];omega
    ·omega
  have:=hle r
  by_cases h:(y.1 == k)=true
  ·simp [h,kS] at *
   omega
  ·simp [h,kS] at *
   omega
theorem vM (F:Fs) (k v:Bs):(F.put k v).bytes≤F.bytes+v.length:=by
 unfold Fs.put
 rw [pW]
 have:=lD F k
 dsimp only
 omega
theorem DL (F:Fs) (e:Ev):(F.did e).bytes≤F.bytes+e.data.length:=by
 unfold Fs.did
 split
 ·exact vM _ _ _
 ·split
  ·unfold Fs.put
   rw [pW]
   have:=lD F e.name
   simp only [List.length_append]
   omega
  ·split
   ·have h1:=vM (F.del e.name) e.to ((F.get e.name).getD [])
    have h2:=lD F e.name
    omega
   ·split
    ·have h2:=lD F e.name
     omega
    ·omega
structure Dk.Roomy (D:Dk) (n:Nat):Prop where
 eB:D.eB≤9223372036854775807
 trace:D.trace.length≤n
 pend:D.pend.length≤n
 now:D.now.length≤n
 bytes:D.now.bytes≤n
theorem Dk.Roomy.small {D:Dk} {n:Nat} (h:D.Roomy n) (hn:n≤100000000000):D.Small:=by
 have h1:=h.trace;have h2:=h.pend;have h3:=h.now;have h4:=h.bytes
 exact ⟨h.eB,by omega,by omega,by omega,by omega⟩
theorem Dk.Roomy.mono {D:Dk} {n m:Nat} (h:D.Roomy n) (hn:n≤m):D.Roomy m:=by
 have h1:=h.trace;have h2:=h.pend;have h3:=h.now;have h4:=h.bytes
 exact ⟨h.eB,by omega,by omega,by omega,by omega⟩
theorem Dk.Roomy.done {D:Dk} {n:Nat} (h:D.Roomy n) (e:Ev):(D.done e).1.Roomy (n+1+e.data.length):=by
 have h0:=h.eB;have h1:=h.trace;have h2:=h.pend;have h3:=h.now;have h4:=h.bytes
 unfold Dk.done
 have hfu:(if 0<D.eB then D.eB - 1 else D.eB)≤9223372036854775807:=by split <;> omega
 split
 ·exact ⟨h0,by simp only;omega,by simp only;omega,by simp only;omega,by simp only;omega⟩
 ·split
  ·exact ⟨hfu,by simp;omega,by simp,by simp only;omega,by simp only;omega⟩
  ·have h5:=uh D.now e
   have h6:=DL D.now e
   exact ⟨hfu,by simp;omega,by simp;omega,by simp only;omega,by simp only;omega⟩
theorem Dk.Roomy.sync {D:Dk} {m:Nat} (h:D.Roomy m):D.sync.1.Roomy (m+1):=h.done ⟨5,[],[],[]⟩
theorem Dk.Roomy.append {D:Dk} {m:Nat} (h:D.Roomy m) (n d:Bs):(D.append n d).1.Roomy (m+1+d.length):=by
 unfold Dk.append
 split
 ·split
  ·exact h.mono (by omega)
  ·exact h.done ⟨2,n,[],d⟩
 ·exact h.mono (by omega)
theorem Dk.Roomy.write {D:Dk} {m:Nat} (h:D.Roomy m) (n d:Bs):(D.write n d).1.Roomy (m+1+d.length):=by
 unfold Dk.write
 split
 ·split
  ·exact h.mono (by omega)
  ·split
   ·exact h.mono (by omega)
   ·exact h.done ⟨1,n,[],d⟩
 ·exact h.mono (by omega)
theorem Dk.Roomy.file {D:Dk} {m:Nat} (h:D.Roomy m) (n:Bs):((D.now.get n).getD []).length≤m:=Nat.le_trans (IY D.now n) h.bytes
end
end Go.Proofs.YtangbdahnmomlaaGreatDoor
