/- disk: what (*Disk).done does. Conditions: the lengths fit. disk: what (*Disk).done does (the walk). Conditions: the lengths fit. disk: how many -/
import Derived.BigQuiet
import Derived.Deep.AppendLies
import Derived.Deep.DeepCutAuto
import Derived.Deep.RegionHeld3
import Derived.Deep.RegionLaw
import Derived.StillTailTactics
import Derived.Test.YtangbdahnmomlaaGreatDoorBu00
import Derived.Test.YtangbdahnmomlaaGreatDoorBu01
set_option linter.unnecessarySimpa false
set_option linter.unusedSimpArgs false
set_option linter.unusedVariables false
set_option maxHeartbeats 4000000
set_option maxRecDepth 100000
namespace Go.Proofs.YtangbdahnmomlaaGreatDoor
section
open Go.RowKit Go.Maps
def Dk.done (D:Dk) (e:Ev):Dk×Int :=
 if D.dead || D.eB == 0 then ({ D with dead:=true },13)
 else if e.op=5 then ({ D with eB:=(if 0<D.eB then D.eB - 1 else D.eB),trace:=D.trace++[e],sure:=D.now,pend:=[] },0)
 else ({ D with eB:=(if 0<D.eB then D.eB - 1 else D.eB),trace:=D.trace++[e],now:=D.now.did e,pend:=D.pend++[e] },0)
theorem U7:(Tryz.prog.info? 117).map (fun i=>(i.zero,i.size,i.bytes))=some (some (.agg #[.int .i64 0,.string ⟨#[]⟩,.string ⟨#[]⟩,.string ⟨#[]⟩]),4,56):=by kernel_rfl
section
variable {w wA w1:World} {p mn ms:Nat} {pv tv:Value} {D:Dk}
theorem jg (h:(bf p mn ms pv tv).Nodup):p≠mn∧p≠ms∧mn≠ms∧pv.ownBlock≠some p∧tv.ownBlock≠some p∧pv.ownBlock≠some mn∧tv.ownBlock≠some mn∧pv.ownBlock≠some ms∧tv.ownBlock≠some ms∧∀ k,pv.ownBlock=some k→tv.ownBlock≠some k:=by
 unfold bf at h
 rw [List.nodup_append,List.nodup_append] at h
 obtain ⟨⟨h1,h2,h3⟩,h4,h5⟩:=h
 simp only [List.nodup_cons,List.mem_cons,List.not_mem_nil,or_false,not_or] at h1
 simp only [List.mem_append,List.mem_cons,List.not_mem_nil,or_false,Option.mem_toList] at h3 h5
 refine ⟨h1.1.1,h1.1.2,h1.2.1,fun e=>h3 p (by simp) p e rfl,fun e=>h5 p (by simp) p e rfl,fun e=>h3 mn (by simp) mn e rfl,fun e=>h5 mn (by simp) mn e rfl,fun e=>h3 ms (by simp) ms e rfl,fun e=>h5 ms (by simp) ms e rfl,fun k hk e=>h5 k (by simp [hk]) k e rfl⟩
theorem Ap (h:p≠mn∧p≠ms∧mn≠ms∧pv.ownBlock≠some p∧tv.ownBlock≠some p∧pv.ownBlock≠some mn∧tv.ownBlock≠some mn∧pv.ownBlock≠some ms∧tv.ownBlock≠some ms∧∀ k,pv.ownBlock=some k→tv.ownBlock≠some k):(bf p mn ms pv tv).Nodup:=by
 obtain ⟨a1,a2,a3,a4,a5,a6,a7,a8,a9,Oa⟩:=h
 unfold bf
 generalize pv.ownBlock=x at *
 generalize tv.ownBlock=y at *
 cases x <;> cases y <;> simp_all <;> omega
theorem cZ.U8 (h:cZ w p mn ms pv tv D) (hx:Ext [] w wA) (e:Ev) {g cap:Nat} (hown:Ua w1 (.slice (some ⟨g,0,none⟩) (D.trace.length+1) cap) (D.trace++[e]))
  (hgrow:Ext tv.ownBlock.toList wA w1) (hat:tv.ownBlock=some g∨w.heap.size≤g) :
  cZ (w1.setCell ⟨p,3,none⟩ (.slice (some ⟨g,0,none⟩) (D.trace.length+1) cap)) p mn ms pv (.slice (some ⟨g,0,none⟩) (D.trace.length+1) cap) { D with trace:=D.trace++[e] } ∧
  Ext (bf p mn ms pv tv) w (w1.setCell ⟨p,3,none⟩ (.slice (some ⟨g,0,none⟩) (D.trace.length+1) cap)):=by
 obtain ⟨a1,a2,a3,a4,a5,a6,a7,a8,a9,Oa⟩:=jg h.apart
 have hlt:=h.lt
 have lp:=hlt p (by simp [bf]);have Ze:=hlt mn (by simp [bf]);have Z5:=hlt ms (by simp [bf])
 have lpv:∀ k,pv.ownBlock=some k→k<w.heap.size:=fun k hk=>hlt k (by simp [bf,hk])
 have x1:Ext tv.ownBlock.toList w w1:=(hx.mono (by simp)).trans hgrow (fun k hk=>.inl hk)
 have x2:Ext [p] w1 (w1.setCell ⟨p,3,none⟩ (.slice (some ⟨g,0,none⟩) (D.trace.length+1) cap)):=(Ext.refl [p] w1).setCell (by simp) _
 have Ox:∀ b,b<w.heap.size→tv.ownBlock≠some b→g≠b:=fun b hb hne e=>by exact hat.elim (fun h1=>hne (e ▸ h1)) (fun h1=>by omega)
 have Rx:∀ b,tv.ownBlock≠some b→b∉tv.ownBlock.toList:=fun b hb=>by simpa using hb
 refine ⟨⟨?_,?_,?_,?_,?_,?_⟩,?_⟩
 ·have hb:=x1.heap h.box (Rx p a5)
  rw [heap_setCell_same hb];rfl
 ·exact (h.now.ext x1 (Rx mn a7)).ext x2 (by simpa using Ne.symm a1)
 ·exact (h.sure.ext x1 (Rx ms a9)).ext x2 (by simpa using Ne.symm a2)
 ·exact fF (fF h.pend x1 (fun k hk=>Rx k (Oa k hk))) x2 (fun k hk=>by simp;rintro rfl;exact a4 hk)
 ·have:=fF hown x2 (fun k hk=>by simp [Value.ownBlock] at hk;subst hk;simpa using Ox p lp a5)
  exact this
 ·refine Ap ⟨a1,a2,a3,a4,?_,a6,?_,a8,?_,?_⟩
  ·simp [Value.ownBlock];exact Ox p lp a5
  ·simp [Value.ownBlock];exact Ox mn Ze a7
  ·simp [Value.ownBlock];exact Ox ms Z5 a9
  ·intro k hk;simp [Value.ownBlock];exact Ox k (lpv k hk) (Oa k hk)
 ·exact (x1.mono (fun x hx=>.inl (by simp only [bf,List.mem_append];exact .inr hx))).trans x2 (fun x hx=>.inl (by simp only [List.mem_singleton] at hx;simp [bf,hx]))
theorem cZ.U9 (h:cZ w p mn ms pv tv D) (hx:Ext [] w wA) (e:Ev) {g cap:Nat} (hown:Ua w1 (.slice (some ⟨g,0,none⟩) (D.pend.length+1) cap) (D.pend++[e]))
  (hgrow:Ext pv.ownBlock.toList wA w1) (hat:pv.ownBlock=some g∨w.heap.size≤g) :
  cZ (w1.setCell ⟨p,2,none⟩ (.slice (some ⟨g,0,none⟩) (D.pend.length+1) cap)) p mn ms (.slice (some ⟨g,0,none⟩) (D.pend.length+1) cap) tv { D with pend:=D.pend++[e] } ∧
  Ext (bf p mn ms pv tv) w (w1.setCell ⟨p,2,none⟩ (.slice (some ⟨g,0,none⟩) (D.pend.length+1) cap)):=by
 obtain ⟨a1,a2,a3,a4,a5,a6,a7,a8,a9,Oa⟩:=jg h.apart
 have hlt:=h.lt
 have lp:=hlt p (by simp [bf]);have Ze:=hlt mn (by simp [bf]);have Z5:=hlt ms (by simp [bf])
 have Z6:∀ k,tv.ownBlock=some k→k<w.heap.size:=fun k hk=>hlt k (by simp [bf,hk])
 have x1:Ext pv.ownBlock.toList w w1:=(hx.mono (by simp)).trans hgrow (fun k hk=>.inl hk)
 have x2:Ext [p] w1 (w1.setCell ⟨p,2,none⟩ (.slice (some ⟨g,0,none⟩) (D.pend.length+1) cap)):=(Ext.refl [p] w1).setCell (by simp) _
 have Ox:∀ b,b<w.heap.size→pv.ownBlock≠some b→g≠b:=fun b hb hne e=>by exact hat.elim (fun h1=>hne (e ▸ h1)) (fun h1=>by omega)
 have Rx:∀ b,pv.ownBlock≠some b→b∉pv.ownBlock.toList:=fun b hb=>by simpa using hb
 refine ⟨⟨?_,?_,?_,?_,?_,?_⟩,?_⟩
 ·have hb:=x1.heap h.box (Rx p a4)
  rw [heap_setCell_same hb];rfl
 ·exact (h.now.ext x1 (Rx mn a6)).ext x2 (by simpa using Ne.symm a1)
 ·exact (h.sure.ext x1 (Rx ms a8)).ext x2 (by simpa using Ne.symm a2)
 ·have:=fF hown x2 (fun k hk=>by simp [Value.ownBlock] at hk;subst hk;simpa using Ox p lp a4)
  exact this
 ·exact fF (fF h.trace x1 (fun k hk=>Rx k (fun e=>Oa k e hk))) x2 (fun k hk=>by simp;rintro rfl;exact a5 hk)
 ·refine Ap ⟨a1,a2,a3,?_,a5,?_,a7,?_,a9,?_⟩
  ·simp [Value.ownBlock];exact Ox p lp a4
  ·simp [Value.ownBlock];exact Ox mn Ze a6
  ·simp [Value.ownBlock];exact Ox ms Z5 a8
  ·intro k hk;simp [Value.ownBlock] at hk;intro ht;exact Ox k (Z6 k ht) (fun e=>Oa k e ht) hk
 ·exact (x1.mono (fun x hx=>.inl (by simp only [bf,List.mem_append];exact .inl (.inr hx)))).trans x2 (fun x hx=>.inl (by simp only [List.mem_singleton] at hx;simp [bf,hx]))
end
abbrev gU (e:Ev):Obj:=.cells #[.int .i64 e.op,.string ⟨e.name.toArray⟩,.string ⟨e.to.toArray⟩,.string ⟨e.data.toArray⟩] 117
theorem L9 (p mn ms:Nat) (pv tv:Value) (D:Dk) (e:Ev) (w:World) (h:cZ w p mn ms pv tv D) (hd:D.dead=true∨D.eB=0) :
  Calls Tryz.prog 80 #[.pointer (some ⟨p,0,none⟩),e.agg] w fun r w2=>r=.returned (.int .i64 13)∧cZ w2 p mn ms pv tv { D with dead:=true }∧Ext [p] w w2:=by
 have hA:=h.alloc (gU e)
 have hs:=(h.N8 D.bL D.eB true 6 (.bool true) (by simp [kQ])).alloc (gU e)
 have hx:Ext [p] w ((w.setCell ⟨p,6,none⟩ (.bool true)).alloc (gU e)):=((Ext.refl [p] w).setCell (by simp) _).alloc _
 have H1:=Lib.hid hs
 have H2:=Lib.hid hx
 obtain ⟨h0,h1,h2,h3,h4,h5,h6⟩:=h.cells
 have hlt:=h.lt p (by simp [bf])
 have hf6:=h.free 6
 have adC:=hA.free 6
 clear hs hx h hA h0 h1 h2 h3 h4
 by_cases hdd:D.dead=true
 ·rw [hdd] at h6
  clear hd hdd
  go_enter Tryz.func80,Tryz.ntmps80
  go_wp2
  go_ret
  exact ⟨rfl,H1.out,H2.out⟩
 ·have hdd:D.dead=false:=by simpa using hdd
  rw [hdd] at h6
  have hf:D.eB=0:=by rcases hd with h | h <;> simp_all
  rw [hf] at h5
  clear hd hdd hf
  go_enter Tryz.func80,Tryz.ntmps80
  go_wp2
  go_ret
  exact ⟨rfl,H1.out,H2.out⟩
theorem cZ.synced {w w1:World} {p mn ms:Nat} {pv tv:Value} {D:Dk} (h:cZ w p mn ms pv tv D) (hx:Ext [] w w1) (hm:rz w1 w.heap.size D.now) :
  cZ ((w1.setCell ⟨p,1,none⟩ (.map (some w.heap.size))).setCell ⟨p,2,none⟩ (.slice none 0 0)) p mn w.heap.size (.slice none 0 0) tv { D with sure:=D.now,pend:=[] } ∧
  Ext [p] w ((w1.setCell ⟨p,1,none⟩ (.map (some w.heap.size))).setCell ⟨p,2,none⟩ (.slice none 0 0)):=by
 obtain ⟨a1,a2,a3,a4,a5,a6,a7,a8,a9,Oa⟩:=jg h.apart
 have hlt:=h.lt
 have lp:=hlt p (by simp [bf]);have Ze:=hlt mn (by simp [bf])
 have Z6:∀ k,tv.ownBlock=some k→k<w.heap.size:=fun k hk=>hlt k (by simp [bf,hk])
 have x2:Ext [p] w1 ((w1.setCell ⟨p,1,none⟩ (.map (some w.heap.size))).setCell ⟨p,2,none⟩ (.slice none 0 0)):=((Ext.refl [p] w1).setCell (by simp) _).setCell (by simp) _
 refine ⟨⟨?_,?_,?_,?_,?_,?_⟩,?_⟩
 ·have hb:=hx.heap h.box (by simp)
  rw [heap_setCell_same (heap_setCell_same hb _)];rfl
 ·exact (h.now.ext hx (by simp)).ext x2 (by simpa using Ne.symm a1)
 ·exact hm.ext x2 (by simp;omega)
 ·exact World.ownsRow_nil _ _ _ _
 ·exact fF (fF h.trace hx (by simp)) x2 (fun k hk=>by simp;rintro rfl;exact a5 hk)
 ·refine Ap ⟨a1,by omega,by omega,by simp [Value.ownBlock],a5,by simp [Value.ownBlock],a7,by simp [Value.ownBlock],fun e=>by have:=Z6 _ e;omega,by simp [Value.ownBlock]⟩
 ·exact (hx.mono (by simp)).trans x2 (by simp)
theorem Cs (w:World) (v:Value) (l:List Ev) (e:Ev) (b:Nat) (hown:Ua w v l) (hb:w.heap[b]? = some (gU e)) (hl:l.length<1000000000000) (ty:TypeId) :
  ∃ g cap w1,(Builtin.append_ #[75,75] ty #[v,.slice (some ⟨b,0,none⟩) 1 1]).run Tryz.prog w=.ok (.slice (some ⟨g,0,none⟩) (l.length+1) cap) w1 ∧
   Ua w1 (.slice (some ⟨g,0,none⟩) (l.length+1) cap) (l++[e])∧Ext v.ownBlock.toList w w1∧(v.ownBlock=some g∨g=w.heap.size):=by
 obtain ⟨i0,hi0,hz0,hz1,hz2⟩:=info_parts U7
 obtain ⟨g,cap,w1,hr,ho,hg,hat,_⟩:=run_append_lies (P:=Tryz.prog) w 75 ty 0 117 i0 _ 4 56 Tryz.underlying75 hi0 hz0 hz1 hz2 rfl (by omega) v l.length (uC l) hown
  ⟨b,0,none⟩ 1 1 e.vals rfl (World.news_of_block (cs:=#[.int .i64 e.op,.string ⟨e.name.toArray⟩,.string ⟨e.to.toArray⟩,.string ⟨e.data.toArray⟩]) (t:=117) (fr:=(0,0)) hb) (by simp [Value.oneCell',Ev.vals]) (by omega) (by unfold maxLen;omega) (by omega) (Nat.zero_le _) _ rfl
 refine ⟨g,cap,w1,hr,?_,⟨hg.os,hg.tape,hg.output,hg.size,fun k hk hn=>hg.block k hk (fun e=>hn (by simp [← e]))⟩,hat⟩
 show w1.ownsRow 0 117 4 _ (l++[e]).length (uC (l++[e]))
 rw [List.length_append,BL]
 exact ho
theorem FE (w0:World) (p mn ms:Nat) (pv tv:Value) (D:Dk) (e:Ev) (h:cZ w0 p mn ms pv tv D) (hl:D.trace.length<1000000000000) :
  ∃ g cap w1,(∀ ty,(Builtin.append_ #[75,75] ty #[tv,.slice (some ⟨w0.heap.size+1,0,none⟩) 1 1]).run Tryz.prog ((w0.alloc (gU e)).alloc (gU e)).drew=.ok (.slice (some ⟨g,0,none⟩) (D.trace.length+1) cap) w1) ∧
   w1.cell? ⟨p,3,none⟩=some tv∧w1.frozen? ⟨p,3,none⟩=false∧(∀ j v,(w0.alloc (gU e)).cell? ⟨w0.heap.size,j,none⟩=some v→w1.cell? ⟨w0.heap.size,j,none⟩=some v) ∧
   cZ (w1.setCell ⟨p,3,none⟩ (.slice (some ⟨g,0,none⟩) (D.trace.length+1) cap)) p mn ms pv (.slice (some ⟨g,0,none⟩) (D.trace.length+1) cap) { D with trace:=D.trace++[e] } ∧
   Ext (bf p mn ms pv tv) w0 (w1.setCell ⟨p,3,none⟩ (.slice (some ⟨g,0,none⟩) (D.trace.length+1) cap))∧(tv.ownBlock=some g∨w0.heap.size≤g)∧w0.heap.size+2≤w1.heap.size ∧
   (w1.setCell ⟨p,3,none⟩ (.slice (some ⟨g,0,none⟩) (D.trace.length+1) cap)).heap[w0.heap.size]? = some (gU e):=by
 have hx:Ext [] w0 ((w0.alloc (gU e)).alloc (gU e)).drew:=(((Ext.refl [] w0).alloc _).alloc _).drew
 have hb:((w0.alloc (gU e)).alloc (gU e)).drew.heap[w0.heap.size+1]? = some (gU e):=by
  have:=heap_alloc_new (w0.alloc (gU e)) (gU e)
  rw [show (w0.alloc (gU e)).heap.size=w0.heap.size+1 by simp] at this
  exact this
 have hT:Ua ((w0.alloc (gU e)).alloc (gU e)).drew tv D.trace:=fF h.trace hx (by simp)
 obtain ⟨g,cap,w1,hr,ho,hg,hat⟩:=Cs _ tv D.trace e _ hT hb hl 75
 have hsz:(((w0.alloc (gU e)).alloc (gU e)).drew).heap.size=w0.heap.size+2:=by simp
 have hat':tv.ownBlock=some g∨w0.heap.size≤g:=hat.elim .inl (fun h1=>.inr (by omega))
 obtain ⟨t1,t2⟩:=h.U8 hx e ho hg hat'
 have a5:=(jg h.apart).2.2.2.2.1
 have lp:=h.lt p (by simp [bf])
 have lT:∀ k,tv.ownBlock=some k→k<w0.heap.size:=fun k hk=>h.lt k (by simp [bf,hk])
 have x0:Ext [] (w0.alloc (gU e)) ((w0.alloc (gU e)).alloc (gU e)).drew:=((Ext.refl [] _).alloc _).drew
 have nb:w0.heap.size∉tv.ownBlock.toList:=fun hh=>by have:=lT _ (by simpa using hh);omega
 have hbx:w1.heap[w0.heap.size]? = some (gU e):=hg.heap (x0.heap (heap_alloc_new w0 (gU e)) (by simp)) nb
 have hbp:=hg.heap (hx.heap h.box (by simp)) (by simpa using a5)
 refine ⟨g,cap,w1,fun ty=>hr,?_,?_,fun j v hv=>?_,t1,t2,hat',?_,?_⟩
 ·rw [bM hbp];rfl
 ·exact iR hbp
 ·exact hg.cell (x0.cell hv (by simp)) nb
 ·have:=hg.size;omega
 ·exact (Below.heap_setCell _ _ _ _ (by simp;omega)).trans hbx
theorem cZ.Uh {w w1:World} {p mn ms:Nat} {pv tv:Value} {D:Dk} {F:Fs} (h:cZ w p mn ms pv tv D) (hx:Ext [mn] w w1) (hm:rz w1 mn F):cZ w1 p mn ms pv tv { D with now:=F }:=by
 obtain ⟨a1,a2,a3,a4,a5,a6,a7,a8,a9,Oa⟩:=jg h.apart
 exact ⟨hx.heap h.box (by simpa using a1),hm,h.sure.ext hx (by simpa using Ne.symm a3),fF h.pend hx (fun k hk=>by simp;rintro rfl;exact a6 hk),fF h.trace hx (fun k hk=>by simp;rintro rfl;exact a7 hk),h.apart⟩
theorem cZ.Va {w w1:World} {p mn ms:Nat} {pv tv:Value} {D:Dk} {F:Fs} (h:cZ w p mn ms pv tv D) (hx:Ext [ms] w w1) (hm:rz w1 ms F):cZ w1 p mn ms pv tv { D with sure:=F }:=by
 obtain ⟨a1,a2,a3,a4,a5,a6,a7,a8,a9,Oa⟩:=jg h.apart
 exact ⟨hx.heap h.box (by simpa using a2),h.now.ext hx (by simpa using a3),hm,fF h.pend hx (fun k hk=>by simp;rintro rfl;exact a8 hk),fF h.trace hx (fun k hk=>by simp;rintro rfl;exact a9 hk),h.apart⟩
theorem IW (wB:World) (p mn ms:Nat) (pv tv:Value) (D:Dk) (e:Ev) (h:cZ wB p mn ms pv tv D) (hl:D.pend.length<1000000000000) :
  ∃ g cap w1,(∀ ty,(Builtin.append_ #[75,75] ty #[pv,.slice (some ⟨wB.heap.size,0,none⟩) 1 1]).run Tryz.prog (wB.alloc (gU e)).drew=.ok (.slice (some ⟨g,0,none⟩) (D.pend.length+1) cap) w1) ∧
   w1.cell? ⟨p,2,none⟩=some pv∧w1.frozen? ⟨p,2,none⟩=false ∧
   cZ (w1.setCell ⟨p,2,none⟩ (.slice (some ⟨g,0,none⟩) (D.pend.length+1) cap)) p mn ms (.slice (some ⟨g,0,none⟩) (D.pend.length+1) cap) tv { D with pend:=D.pend++[e] } ∧
   cB (bf p mn ms pv tv) wB (w1.setCell ⟨p,2,none⟩ (.slice (some ⟨g,0,none⟩) (D.pend.length+1) cap)) (bf p mn ms (.slice (some ⟨g,0,none⟩) (D.pend.length+1) cap) tv):=by
 have hx:Ext [] wB (wB.alloc (gU e)).drew:=((Ext.refl [] wB).alloc _).drew
 have hT:Ua (wB.alloc (gU e)).drew pv D.pend:=fF h.pend hx (by simp)
 obtain ⟨g,cap,w1,hr,ho,hg,hat⟩:=Cs _ pv D.pend e _ hT (heap_alloc_new wB (gU e)) hl 75
 have hsz:((wB.alloc (gU e)).drew).heap.size=wB.heap.size+1:=by simp
 have hat':pv.ownBlock=some g∨wB.heap.size≤g:=hat.elim .inl (fun h1=>.inr (by omega))
 obtain ⟨t1,t2⟩:=h.U9 hx e ho hg hat'
 have a4:=(jg h.apart).2.2.2.1
 have hbp:=hg.heap (hx.heap h.box (by simp)) (by simpa using a4)
 refine ⟨g,cap,w1,fun ty=>hr,?_,iR hbp,t1,⟨t2,fun x hx=>?_⟩⟩
 ·rw [bM hbp];rfl
 ·simp only [bf,List.mem_append,List.mem_cons,List.not_mem_nil,or_false,Option.mem_toList,Value.ownBlock] at hx ⊢
  rcases hx with (h | h) | h
  ·exact .inl (.inl (.inl h))
  ·rcases hat' with h1 | h1
   ·exact .inl (.inl (.inr (h1.trans h)))
   ·simp at h;right;omega
  ·exact .inl (.inr h)
end
section
open Go.RowKit Go.Maps
def Dk.rF (D:Dk):Dk:={ D with eB:=(if 0<D.eB then D.eB - 1 else D.eB) }
theorem Ma (p mn ms:Nat) (pv tv:Value) (D:Dk) (e:Ev) (w:World) (h:cZ w p mn ms pv tv D) (hd:D.dead=false) (hf:D.eB≠0) (hfm:D.eB≤9223372036854775807) (hl:D.trace.length<1000000000000) (hpl:D.pend.length<1000000000000) (hF:D.now.length<maxLen) (he:e.op=5∨e.Fit D.now) :
  Calls Tryz.prog 80 #[.pointer (some ⟨p,0,none⟩),e.agg] w fun r w2=>r=.returned (.int .i64 0)∧∃ F2,mO w2 p F2 (D.done e).1∧cB (bf p mn ms pv tv) w w2 F2:=by
 have HDN:Hid ((D.done e).1=if e.op=5 then { D.rF with trace:=D.trace++[e],sure:=D.now,pend:=[] } else { D.rF with trace:=D.trace++[e],now:=D.now.did e,pend:=D.pend++[e] }):=by
  unfold Dk.done Dk.rF
  rw [if_neg (by simp [hd,hf])]
  split <;> rfl
 have HE:=Lib.hid he
 have HF:=Lib.hid hF
 have Ry:=Lib.hid hpl
 clear he hF hpl
 obtain ⟨h0,h1,h2,h3,h4,h5,h6⟩:=h.cells
 have hlt:=h.lt p (by simp [bf])
 have hfz:=h.free 5
 rw [hd] at h6
 have hf0:(D.eB == 0)=false:=beq_eq_false_iff_ne.2 hf
 have HL:=Lib.hid hl
 have HH:=Lib.hid h
 clear hl h0 h1 h2 h3 h4 h
 go_enter Tryz.func80,Tryz.ntmps80
 go_upto_if 23 with (fail)
 go_cut [] (fun wx=>∃ w0,wx=w0.alloc (gU e)∧cZ w0 p mn ms pv tv D.rF∧Ext [p] w w0∧w0.heap.size=w.heap.size)
 case first =>
  go_wp2
  ·go_meet
   rename_i hpos
   refine ⟨w.setCell ⟨p,5,none⟩ (.int .i64 (D.eB - 1)),rfl,?_,(Ext.refl [p] w).setCell (by simp) _,by simp⟩
   unfold Dk.rF
   rw [if_pos hpos]
   exact HH.out.N8 D.bL (D.eB - 1) D.dead 5 _ (by simp [kQ])
  ·go_meet
   rename_i hpos
   refine ⟨w,rfl,?_,Ext.refl [p] w,rfl⟩
   unfold Dk.rF
   rw [if_neg (by omega)]
   exact HH.out
 case rest =>
  obtain ⟨w0,rfl,hA,hx0,hsz⟩:=hcut
  rw [← hsz]
  clear h5 h6 hfz hf0 hlt hd hf hfm
  obtain ⟨h0,h1,h2,h3,h4,h5,h6⟩:=hA.cells
  have hlt:=hA.lt p (by simp [bf])
  obtain ⟨g,cap,w1,hr,c3,f3,cb,t1,t2,hat,hs2,hbx⟩:=FE w0 p mn ms pv tv D.rF e hA HL.out
  have HR:=Lib.hid hr
  have T1:=Lib.hid t1
  have T2:=Lib.hid t2
  have HB:=Lib.hid hbx
  have HAT:=Lib.hid hat
  have HX0:=Lib.hid hx0
  have HSZ:=Lib.hid hsz
  clear t1 t2 hbx hat cb h0 h1 h2 h4 h5 h6 hA hx0 hsz hr
  go_upto_region 6 with (fail)
  go_cut [] (fun wx=>wx=w1.setCell ⟨p,3,none⟩ (.slice (some ⟨g,0,none⟩) (D.rF.trace.length+1) cap))
  case first =>
   go_region_law ((refine qR (by rfl) (by rfl) (by rfl) (by rfl) (HR.out _) ?_))
   all_goals (go_wp2_with fail;go_meet;exact rfl)
  case rest =>
   subst hcut
   generalize w1.setCell ⟨p,3,none⟩ (.slice (some ⟨g,0,none⟩) (D.rF.trace.length+1) cap)=w2 at *
   have M2:Hid (cB (bf p mn ms pv tv) w w2 (bf p mn ms pv (.slice (some ⟨g,0,none⟩) (D.rF.trace.length+1) cap))):=by
    refine (cB.iV (HX0.out.mono (by simp [bf]))).trans ⟨T2.out,fun x hx=>?_⟩
    simp only [bf,List.mem_append,List.mem_cons,List.not_mem_nil,or_false,Option.mem_toList,Value.ownBlock] at hx ⊢
    rcases hx with h | h
    ·exact .inl (.inl h)
    ·rcases HAT.out with h1 | h1
     ·exact .inl (.inr (h1.trans h))
     ·simp at h;right;omega
   clear c3 f3 HR h3 hlt hs2 T2 HAT HX0
   obtain ⟨h0,h1,h2,h3,h4,h5,h6⟩:=T1.out.cells
   have hlt:=T1.out.lt p (by simp [bf])
   have hn:p≠w0.heap.size:=by have:=HSZ.out;have:=(HH.out.lt p (by simp [bf]));omega
   have b0:w2.cell? ⟨w0.heap.size,0,none⟩=some (.int .i64 e.op):=by rw [bM HB.out];rfl
   have b1:w2.cell? ⟨w0.heap.size,1,none⟩=some (.string ⟨e.name.toArray⟩):=by rw [bM HB.out];rfl
   have b2:w2.cell? ⟨w0.heap.size,2,none⟩=some (.string ⟨e.to.toArray⟩):=by rw [bM HB.out];rfl
   have b3:w2.cell? ⟨w0.heap.size,3,none⟩=some (.string ⟨e.data.toArray⟩):=by rw [bM HB.out];rfl
   clear h1 h2 h3 h4 h5 h6
   by_cases h5:e.op=5
   ·have h5b:(e.op == 5)=true:=by simp [h5]
    have H5:=Lib.hid h5
    clear h5 b1 b2 b3
    go_wp2_with fail
    refine (LC mn D.now _ T1.out.now).mono ?_
    rintro r w3 ⟨rfl,NQ,hx3,hs3⟩
    obtain ⟨s1,s2⟩:=T1.out.synced hx3 NQ
    have hb:=hx3.heap T1.out.box (by simp)
    have c1:w3.cell? ⟨p,1,none⟩=some (.map (some ms)):=by rw [bM hb];rfl
    have c2:w3.cell? ⟨p,2,none⟩=some pv:=by rw [bM hb];rfl
    have f1:w3.frozen? ⟨p,1,none⟩=false:=iR hb
    have f2:w3.frozen? ⟨p,2,none⟩=false:=iR hb
    have S1:=Lib.hid s1
    have S2:=Lib.hid s2
    clear s1 s2 hb NQ hx3 hs3
    go_wp2
    go_ret
    refine ⟨rfl,_,⟨_,_,_,_,by rw [HDN.out,if_pos H5.out];exact S1.out,rfl⟩,M2.out.trans ⟨S2.out.mono (by simp [bf]),fun x hx=>?_⟩⟩
    simp only [bf,List.mem_append,List.mem_cons,List.not_mem_nil,or_false,Value.ownBlock,Option.toList] at hx ⊢
    rcases hx with (rfl | rfl | rfl) | rfl <;> simp
   ·have h5b:(e.op == 5)=false:=by simp [h5]
    have H5:=Lib.hid h5
    clear h5
    go_upto_region 10 with (fail)
    go_still_tail 5,(by kernel_rfl)
    go_wp2_with fail
    refine (UW mn D.now e _ (T1.out.now.ext (Ext.refl [] w2).drew (by simp)) HF.out (HE.out.resolve_left H5.out)).mono ?_
    rintro r w3 ⟨rfl,NQ,hx3⟩
    have Rz:Ext [mn] w2 w3:=(Ext.refl [mn] w2).drew.trans hx3 (by simp)
    have hA3:=T1.out.Uh Rz NQ
    have hb3:=Rz.heap HB.out (by have:=T1.out.lt mn (by simp [bf]);have:=HSZ.out;have:=HH.out.lt mn (by simp [bf]);simp;omega)
    have M3:Hid (cB (bf p mn ms pv tv) w w3 (bf p mn ms pv (.slice (some ⟨g,0,none⟩) (D.rF.trace.length+1) cap))):=M2.out.trans (cB.iV (Rz.mono (by simp [bf])))
    have adD:w0.heap.size<w3.heap.size:=jL hb3
    clear b0 b1 b2 b3 hx3 NQ Rz h0 hlt M2 HB
    have b0:w3.cell? ⟨w0.heap.size,0,none⟩=some (.int .i64 e.op):=by rw [bM hb3];rfl
    have b1:w3.cell? ⟨w0.heap.size,1,none⟩=some (.string ⟨e.name.toArray⟩):=by rw [bM hb3];rfl
    have b2:w3.cell? ⟨w0.heap.size,2,none⟩=some (.string ⟨e.to.toArray⟩):=by rw [bM hb3];rfl
    have b3:w3.cell? ⟨w0.heap.size,3,none⟩=some (.string ⟨e.data.toArray⟩):=by rw [bM hb3];rfl
    clear hb3
    obtain ⟨h0,h1,h2,h3,h4,h5,h6⟩:=hA3.cells
    have hlt:=hA3.lt p (by simp [bf])
    obtain ⟨g4,cap4,w4,hr,c2,f2,t1,m4⟩:=IW w3 p mn ms pv _ _ e hA3 Ry.out
    have HR:=Lib.hid hr
    have T4:=Lib.hid t1
    have M4:=Lib.hid m4
    clear t1 m4 h0 h1 h3 h4 h5 h6 hA3 hr T1 h5b hn
    go_upto_region 11 with (fail)
    go_cut [] (fun wx=>wx=w4.setCell ⟨p,2,none⟩ (.slice (some ⟨g4,0,none⟩) (D.pend.length+1) cap4))
    case first =>
     go_region_law ((refine qR (by rfl) (by rfl) (by rfl) (by rfl) (HR.out _) ?_))
     all_goals (go_wp2_with fail;go_meet;exact rfl)
    case rest =>
     subst hcut
     clear c2 f2 HR h2 hlt b0 b1 b2 b3
     go_wp2
     go_ret
     exact ⟨rfl,_,⟨_,_,_,_,by rw [HDN.out,if_neg H5.out];exact T4.out,rfl⟩,M3.out.trans M4.out⟩
structure Dk.Ui (D:Dk) (e:Ev):Prop where
 eB:D.eB≤9223372036854775807
 trace:D.trace.length<1000000000000
 pend:D.pend.length<1000000000000
 now:D.now.length<maxLen
 ev:e.op=5∨e.Fit D.now
def rG (F:List Nat) (w:World) (p:Nat) (w2:World) (D:Dk):Prop:=∃ F2,mO w2 p F2 D∧cB F w w2 F2
theorem rH (p:Nat) (F:List Nat) (D:Dk) (e:Ev) (w:World) (h:mO w p F D) (hf:D.Ui e) :
  Calls Tryz.prog 80 #[.pointer (some ⟨p,0,none⟩),e.agg] w fun r w2=>r=.returned (.int .i64 (D.done e).2)∧rG F w p w2 (D.done e).1:=by
 obtain ⟨mn,ms,pv,tv,h,rfl⟩:=h
 by_cases hd:D.dead=true∨D.eB=0
 ·have e1:D.done e=({ D with dead:=true },13):=by unfold Dk.done;rw [if_pos (by simpa using hd)]
  rw [e1]
  refine (L9 p mn ms pv tv D e w h hd).mono ?_
  rintro r w2 ⟨rfl,h2,hx⟩
  exact ⟨rfl,_,⟨mn,ms,pv,tv,h2,rfl⟩,cB.iV (hx.mono (by simp [bf]))⟩
 ·have hd':D.dead=false:=by cases hdd:D.dead <;> simp_all
  have hf0:D.eB≠0:=fun e=>hd (.inr e)
  have e1:(D.done e).2=0:=by
   unfold Dk.done
   rw [if_neg (by simp [hd',hf0])]
   split <;> rfl
  rw [e1]
  exact Ma p mn ms pv tv D e w h hd' hf0 hf.eB hf.trace hf.pend hf.now hf.ev
end
section
open Go.RowKit Go.Maps
def Fs.bytes (F:Fs):Nat:=(F.map fun p=>p.2.length).sum
theorem IX {F G:Fs} (h:F.Perm G):F.bytes=G.bytes:=by
 unfold Fs.bytes
 exact (h.map _).sum_nat
theorem vL (p:Nat) (F:List Nat) (D:Dk) (w:World) (h:mO w p F D) (hb:D.now.bytes≤9223372036854775807) :
  Calls Tryz.prog 95 #[.pointer (some ⟨p,0,none⟩)] w fun e w2=>e=.returned (.int .i64 D.now.bytes)∧Ext [] w w2:=by
 obtain ⟨mn,ms,pv,tv,h,rfl⟩:=h
 obtain ⟨h0,h1,h2,h3,h4,h5,h6⟩:=h.cells
 obtain ⟨w0,RA,hrun,hR0,hx0,hs0⟩:=h.now.range (t:=93) Tryz.underlying9 Tryz.underlying93
 have Z7:=Lib.hid hR0
 have HX0:=Lib.hid hx0
 have HB:=Lib.hid hb
 have HN:=Lib.hid h.now.lt
 clear h1 h2 h3 h4 h5 h6 h hR0 hx0 hs0 hb
 go_enter Tryz.func95,Tryz.ntmps95
 go_wp2
 go_loopw [3] (fun n wr=>∃ L cnt,iC Tryz.prog 9 9 wr mn w.heap.size D.now L cnt∧n=.int .i64 ((D.now.bytes:Int) - L.bytes)∧L.bytes≤D.now.bytes∧Ext [] w wr) (fun _ wr=>wr.rangeLeft mn w.heap.size)
 case atStart=>exact ⟨D.now,RA,Z7.out,by simp,Nat.le_refl _,HX0.out⟩
 case round =>
  obtain ⟨L,cnt,hR,rfl,hle,hx⟩:=hrel
  have HR:=Lib.hid hR
  have HX:=Lib.hid hx
  rcases hR.next Tryz.underlying9 Tryz.underlying9 with ⟨rfl,hn⟩ | ⟨x,c,w1,L1,cnt1,hp,hm,hx1,hc1,hn,XB,hlt,WR,hsz,hen⟩
  ·clear hR hx
   go_wp2
   go_ret
   exact ⟨Kg (by simp [Fs.bytes]),HX.out⟩
  ·have hb1:L.bytes=c.length+Fs.bytes L1:=by rw [IX hp];simp [Fs.bytes]
   have HB1:=Lib.hid hb1
   have HR1:=Lib.hid XB
   have BJ:Hid (Ext [] w w1):=hx.trans WR (by simp)
   have l1:(0:Int)≤(D.now.bytes:Int) - L.bytes:=by omega
   have l2:(D.now.bytes:Int) - L.bytes+c.length≤9223372036854775807:=by have:=HB.out;omega
   have xB:=Lib.hid hlt
   clear hR hx hp hm hx1 hc1 hb1 XB hlt WR hsz
   go_wp2
   go_roundw
   case rel=>exact ⟨L1,cnt1,HR1.out,(by have:=HB1.out;congr 1;omega),by have:=HB1.out;omega,BJ.out⟩
   case measure=>rw [HR.out.left_eq,HR1.out.left_eq];exact xB.out
end
end Go.Proofs.YtangbdahnmomlaaGreatDoor
