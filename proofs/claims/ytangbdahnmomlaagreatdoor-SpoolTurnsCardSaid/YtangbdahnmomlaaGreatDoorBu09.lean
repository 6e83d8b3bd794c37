/- entry, plainly: buckets, names, and what an ideal box' file is opened to. No program. ledger: rows of bytes (text, read, Rows), nonces. -/
import Derived.Deep.DeepCutAuto
import Derived.RangeFuncBound
import Derived.RangeFuncNested
import Derived.Test.YtangbdahnmomlaaGreatDoorBu01
import Derived.Test.YtangbdahnmomlaaGreatDoorBu02
import Derived.Test.YtangbdahnmomlaaGreatDoorBu06
import Derived.Test.YtangbdahnmomlaaGreatDoorBu07
import Derived.Test.YtangbdahnmomlaaGreatDoorBu08
set_option linter.unnecessarySimpa false
set_option linter.unusedSimpArgs false
set_option linter.unusedVariables false
set_option maxHeartbeats 2000000
set_option maxRecDepth 100000
namespace Go.Proofs.YtangbdahnmomlaaGreatDoor
section
open Go.Maps
abbrev ja:=Bs×Bs×Bs
def bR (n:Nat):Bs:=zeros 4++dx n 8
theorem zeros_length (n:Nat):(zeros n).length=n:=List.length_replicate
theorem lC (n:Nat):(bR n).length=12:=by unfold bR zeros;rw [List.length_append,dE];rfl
def aK (s:Bs):En×Bs×Bs×Int :=
 let q:=Rd.text ⟨s,false⟩ 4000
 if (iW 300 q.1).2=0 then ((iW 300 q.1).1,q.1,q.2.s,0) else (En.zero,[],[],2)
theorem LY {s:Bs} (h:(iW 300 s).2=0):dz (iW 300 s).1=true∧s=dC (iW 300 s).1:=by
 unfold iW at h ⊢
 split at h
 ·rename_i h1
  rw [if_pos h1]
  exact (zY 300 (by omega) (by omega) s _).1 ⟨h1.1,h1.2,rfl⟩
 ·simp at h
theorem Oq (e:En):dC e≠[]:=by unfold dC bJ;simp
theorem Rw {x:lu} (h:x.1.1.length≤64∧x.1.2.length≤255∧0≤x.2∧x.2≤2):(Dt x).length≤400:=by
 unfold Dt
 have h1:=aP x.1.1
 have h2:=aP x.1.2
 have h3:=aL x.2.toNat
 simp only [List.length_append]
 omega
theorem Ot:∀ l:List lu,(∀ x∈l,x.1.1.length≤64∧x.1.2.length≤255∧0≤x.2∧x.2≤2)→(l.flatMap Dt).length≤400*l.length
 | [],_=>by simp
 | x::l,h=>by
  have h1:=Rw (h x (by simp))
  have h2:=Ot l (fun y hy=>h y (by simp [hy]))
  rw [List.flatMap_cons,List.length_append,List.length_cons]
  omega
theorem xA {s:Bs} (h:s.length≤255):(aN s).length≤257:=by
 rw [jo]
 have:need s.length≤1:=kR (by omega)
 omega
theorem rE {n:Nat} (h:n≤1099511627776):(bJ n).length≤7:=by
 rw [nW]
 have:need n≤6:=kR (by omega)
 omega
theorem Am {n:Nat} (h:n≤255):(bJ n).length≤2:=by
 rw [nW]
 have:need n≤1:=kR (by omega)
 omega
theorem Ou {x:lu} (h:x.1.1.length≤64∧x.1.2.length≤255∧0≤x.2∧x.2≤2):(Dt x).length≤325:=by
 unfold Dt
 have h1:(aN x.1.1).length≤66:=by
  rw [jo]
  have:need x.1.1.length≤1:=kR (by omega)
  omega
 have h2:=xA h.2.1
 have h3:=Am (n:=x.2.toNat) (by omega)
 simp only [List.length_append]
 omega
theorem Cq:∀ l:List lu,(∀ x∈l,x.1.1.length≤64∧x.1.2.length≤255∧0≤x.2∧x.2≤2)→(l.flatMap Dt).length≤325*l.length
 | [],_=>by simp
 | x::l,h=>by
  have h1:=Ou (h x (by simp))
  have h2:=Cq l (fun y hy=>h y (by simp [hy]))
  rw [List.flatMap_cons,List.length_append,List.length_cons]
  omega
theorem mY {e:En} (h:e.Parts):(dC e).length≤4000:=by
 unfold dC
 have h1:=rE h.id.2
 have h2:=xA h.dom
 have h3:=rE h.ep.2
 have h4:=rE h.cnt
 have h5:(aN e.mX.1).length≤66:=by
  rw [jo]
  have:need e.mX.1.length≤1:=kR (by have:=h.mX.1;omega)
  have:=h.mX.1
  omega
 have h6:=xA h.mX.2
 have h7:=Am (n:=e.gz.length) (by have:=h.gz.2;omega)
 have h8:=Cq e.gz h.each
 have h9:=rE h.born
 have h10:=rE h.jM
 have h11:=Am (n:=e.tries.toNat) (by have:=h.tries;omega)
 have h12:=h.gz.2
 simp only [List.length_append]
 omega
theorem IV (e:En) (h:dz e=true) (s:Bs):aK (aN (dC e)++s)=(e,dC e,s,0):=by
 have hl:=mY (bT h)
 unfold aK
 rw [iD (dC e) 4000 s (by omega) hl]
 dsimp only
 rw [EZ 300 (by omega) (by omega) e h,if_pos rfl]
theorem vK {s:Bs} (h:(aK s).2.2.2=0):dz (aK s).1=true∧(aK s).2.1=dC (aK s).1∧s=aN (dC (aK s).1)++(aK s).2.2.1:=by
 unfold aK at h ⊢
 dsimp only at h ⊢
 split at h
 ·rename_i h1
  rw [if_pos h1]
  dsimp only
  obtain ⟨h2,h3⟩:=LY h1
  refine ⟨h2,h3,?_⟩
  cases hb:(Rd.text ⟨s,false⟩ 4000).2.bad with
  | false =>
   have h4:=(lq hb).2
   rw [← h3]
   exact h4
  | true =>
   exfalso
   have h5:(Rd.text ⟨s,false⟩ 4000).1=[]:=by
    revert hb
    unfold Rd.text Rd.take
    split
    ·intro _;rfl
    ·intro hb;exact absurd hb (by simp)
   rw [h5] at h3
   exact Oq _ h3.symm
 ·simp at h
theorem Ao {s:Bs} (h:(aK s).2.2.2≠0):aK s=(En.zero,[],[],2):=by
 unfold aK at h ⊢
 dsimp only at h ⊢
 split at h
 ·exact absurd rfl h
 ·rename_i h1;rw [if_neg h1]
variable (U:Bs→Bs→Bs)
def jC (T:Mp ja) (key aB data bytes:Bs):Bs×Int :=
 if key.length=32∧aB.length=12∧data.length≤4096∧16≤bytes.length∧bytes.length≤16400 then
  match T.get (U key aB) with
  | none=>([],20)
  | some x=>if x.1=data∧x.2.2=bytes then (x.2.1,0) else ([],20)
 else ([],5)
def eD (T:Mp ja) (draws key aB data text:Bs):(Bs×Int)×Bs×Mp ja :=
 if key.length=32∧aB.length=12∧data.length≤4096∧text.length≤16384 then
  match T.get (U key aB) with
  | some x=>if x.1=data∧x.2.1=text then ((x.2.2,0),draws,T) else (([],11),draws,T)
  | none=>if draws.length<text.length+16 then (([],21),draws,T) else ((draws.take (text.length+16),0),draws.drop (text.length+16),T.put (U key aB) (data,text,draws.take (text.length+16)))
 else (([],5),draws,T)
theorem LZ {T:Mp ja} {key aB data bytes:Bs} (h:(jC U T key aB data bytes).2=0):∃ x,T.get (U key aB)=some x∧x.1=data∧x.2.2=bytes:=by
 unfold jC at h
 split at h
 ·cases hg:T.get (U key aB) with
  | none=>rw [hg] at h;simp at h
  | some x =>
   rw [hg] at h
   dsimp only at h
   split at h
   ·rename_i h1
    exact ⟨x,rfl,h1⟩
   ·simp at h
 ·simp at h
end
section
open Go.RowKit Go.Maps
theorem L6 (n:Nat) (w:World) (_hn:n<18446744073709551616) :
  Calls Tryz.prog 144 #[.int .u64 n] w fun e w2=>e=.returned (.string ⟨(Ab n).toArray⟩)∧Ext [] w w2:=by
 have hmk:∀ W,(Instr.makeSlice 79 (.int .i64 4) (.int .i64 4)).run Tryz.prog W=.ok (.slice (some ⟨W.heap.size,0,none⟩) 4 4) (W.alloc (.cells #[.int .u8 0,.int .u8 0,.int .u8 0,.int .u8 0] 5)):=fun W=>by
  have:=run_make_row' (P:=Tryz.prog) 79 5 (.int .u8 0) 1 Tryz.underlying79 (by kernel_rfl) rfl .i64 .i64 4 (by omega) (by omega) W
  rw [tC] at this
  exact this
 have hcv:∀ (W:World) (b:Nat),W.cell? ⟨b,0,none⟩=some (.int .u8 0)→W.cell? ⟨b,1,none⟩=some (.int .u8 0)→W.cell? ⟨b,2,none⟩=some (.int .u8 0)→W.cell? ⟨b,3,none⟩=some (.int .u8 0) →
   (convert 79 9 (.slice (some ⟨b,0,none⟩) 4 4)).run Tryz.prog W=.ok (.string ⟨#[0,0,0,0]⟩) W:=fun W b h0 h1 h2 h3 =>
  run_convert_bytes_back (P:=Tryz.prog) W 79 9 5 ⟨b,0,none⟩ 4 [0,0,0,0] Tryz.underlying79 Tryz.underlying5 Tryz.underlying9 (fun j hj=>by
   have hj4:j<4:=hj
   obtain rfl | rfl | rfl | rfl:j=0∨j=1∨j=2∨j=3:=by omega
   ·exact h0
   ·exact h1
   ·exact h2
   ·exact h3)
 have hadd:=dZ [0,0,0,0] (dx n 8) (by rw [dE];decide)
 have HN:Hid (Ab n=[0,0,0,0]++dx n 8):=rfl
 go_enter Tryz.func144,Tryz.ntmps144
 go_wp2
 go_region_with (first | (go_at_call 111;refine (nA n 8 _ (by omega)).mono ?_;rintro e w2 ⟨rfl,hx⟩;have hcx:=hx.old))
 all_goals
  have HX:=Lib.hid hx
  clear hx hcx hcv hmk hadd
  go_wp2
  go_ret
  refine ⟨by rw [HN.out];rfl,?_⟩
  first
   | exact ((Ext.refl [] w).drew).trans HX.out (by simp)
   | exact (((Ext.refl [] w).drew).trans HX.out (by simp)).alloc _
   | exact (((Ext.refl [] w).alloc _).drew).trans HX.out (by simp)
end
section
open Go.RowKit Go.Maps
theorem Ext.Xz {a w:World} {c:Nat} (h:Ext [c] a w):∀ b o,b<a.heap.size→b≠c→w.cell? ⟨b,o,none⟩=a.cell? ⟨b,o,none⟩:=fun b o hb hc=>World.cell?_of_block (h.block b hb (by simpa using hc))
theorem Ext.XA {F:List Nat} {a w:World} (h:Ext F a w):∀ k,k<a.heap.size→k<w.heap.size:=fun _ hk=>Nat.lt_of_lt_of_le hk h.size
theorem Ext.Ug {a w:World} {c:Nat} (h:Ext [c] a w):∀ b o,b<a.heap.size→b≠c→w.frozen? ⟨b,o,none⟩=a.frozen? ⟨b,o,none⟩:=fun b o hb hc=>by
 have:=h.block b hb (by simpa using hc)
 simp only [World.frozen?,this]
theorem FD (s:Bs) (w:World) (hs:s.length≤1000000000) :
  Calls Tryz.prog 93 #[.string ⟨s.toArray⟩] w fun e w2=>e=.returned (.tuple #[.agg #[.string ⟨(iZ s).1.key.toArray⟩,.int .u64 (iZ s).1.ceil],.bool (iZ s).2])∧Ext [] w w2:=by
 have HS:=Lib.hid hs
 clear hs
 go_enter Tryz.func93,Tryz.ntmps93
 go_wp2_with fail
 refine (Fy s _).mono ?_
 rintro e w1 ⟨rfl,h1,hx1,hs1⟩
 simp only [World.size_alloc] at h1 hs1 ⊢
 have hx0:Ext [] w w1:=((Ext.refl [] w).alloc _).trans hx1 (by simp)
 have hb0:w1.heap[w.heap.size]? = some (.cells #[.string ⟨#[]⟩,.int .u64 0] 137 (0,0)):=hx1.heap (heap_alloc_new w _) (by simp)
 have H1:=Lib.hid h1
 have HX0:=Lib.hid hx0
 have HB0:=Lib.hid hb0
 have bX:=Lib.hid hs1
 have hn1:w1.heap.size≠w.heap.size+1:=by omega
 clear h1 hx1 hx0 hb0 hs1
 go_upto_region 2 with (fail)
 have HRT:Hid (iZ s=(⟨(Rd.text ⟨s,false⟩ 300).1,((Rd.text ⟨s,false⟩ 300).2.num 1099511627776).1⟩,decide (((Rd.text ⟨s,false⟩ 300).2.num 1099511627776).2.done=0))):=rfl
 have Kr:Hid ((Rd.text ⟨s,false⟩ 300).2.s.length≤1000000000000):=by have:=(ic ⟨s,false⟩ 300).1;have:=HS.out;unfold Hid;dsimp only at *;omega
 go_cut [5] (fun v wx=>∃ q,v=.pointer (some ⟨q,0,none⟩)∧wx.heap[q]? = some (.cells #[.string ⟨(Rd.text ⟨s,false⟩ 300).1.toArray⟩,.int .u64 ((Rd.text ⟨s,false⟩ 300).2.num 1099511627776).1] 137 (0,0))∧iy 151 wx (w.heap.size+1) ((Rd.text ⟨s,false⟩ 300).2.num 1099511627776).2∧wx.heap[w.heap.size]? = some (.cells #[.string ⟨#[]⟩,.int .u64 0] 137 (0,0))∧Ext [] w wx)
 case first =>
  go_region_with (first | (go_at_call 92;refine (Kn 151 (w.heap.size+1) ⟨s,false⟩ 300 300 _ rfl (by first | exact H1.out.ext (Ext.refl [] w1).drew (by simp) | exact H1.out.ext ((Ext.refl [] w1).drew.alloc _) (by simp) | exact H1.out.ext (((Ext.refl [] w1).alloc _).drew) (by simp)) (by have:=HS.out;dsimp only;omega) (by omega)).mono ?_;rintro e w2 ⟨rfl,h2,hx2⟩;have H2:=Lib.hid h2;have yu:=Lib.hid hx2;have hc2:=hx2.Xz;have hf2:=hx2.Ug;have hz2:=hx2.XA;have hn2:w2.heap.size≠w.heap.size+1:=(by have:=h2.lt;omega);clear h2 hx2) | (go_at_call 96;refine (Om 151 (w.heap.size+1) (Rd.text ⟨s,false⟩ 300).2 1099511627776 1099511627776 _ rfl (by first | exact H2.out | exact H2.out.ext ((Ext.refl [] w2).alloc _) (by simp)) Kr.out).mono ?_;rintro e w3 ⟨rfl,h3,hx3⟩;have H3:=Lib.hid h3;have Rv:=Lib.hid hx3;have hc3:=hx3.Xz;have hf3:=hx3.Ug;have hz3:=hx3.XA;clear h3 hx3))
  all_goals
   clear hc2 hf2 hz2 hc3 hf3 hz3
   go_wp2_with fail
   go_meet
   first
    | (have E:=(((Ext.refl [w.heap.size + 1] w1).drew.trans yu.out (by simp)).trans Rv.out (by simp)).alloc (.cells #[.string ⟨(Rd.text ⟨s,false⟩ 300).1.toArray⟩,.int .u64 ((Rd.text ⟨s,false⟩ 300).2.num 1099511627776).1] 137)
       exact ⟨_,rfl,heap_alloc_new _ _,H3.out.ext ((Ext.refl [] w3).alloc _) (by simp),E.heap HB0.out (by simp),HX0.out.trans E (by simp)⟩)
    | (have z2 : w1.heap.size ≤ w2.heap.size:=yu.out.size
       have E:=(((((Ext.refl [w.heap.size+1] w1).drew.trans yu.out (by simp)).alloc _).trans Rv.out (by simp)).setCell (p:=⟨w2.heap.size,0,none⟩) (.inr z2) (.string ⟨(Rd.text ⟨s,false⟩ 300).1.toArray⟩)).setCell (p:=⟨w2.heap.size,1,none⟩) (.inr z2) (.int .u64 ((Rd.text ⟨s,false⟩ 300).2.num 1099511627776).1)
       have hq3:=Rv.out.heap (heap_alloc_new w2 _) (by simpa using hn2)
       exact ⟨_,rfl,heap_setCell_same (heap_setCell_same hq3 _) _,H3.out.ext (((Ext.refl [w2.heap.size] w3).setCell (by simp) _).setCell (by simp) _) (by simpa using Ne.symm hn2),E.heap HB0.out (by simp),HX0.out.trans E (by simp)⟩)
    | (have z2 : w1.heap.size ≤ w1.heap.size:=Nat.le_refl _
       have E:=((((((Ext.refl [w.heap.size+1] w1).alloc _).drew).trans yu.out (by simp)).trans Rv.out (by simp)).setCell (p:=⟨w1.heap.size,0,none⟩) (.inr z2) (.string ⟨(Rd.text ⟨s,false⟩ 300).1.toArray⟩)).setCell (p:=⟨w1.heap.size,1,none⟩) (.inr z2) (.int .u64 ((Rd.text ⟨s,false⟩ 300).2.num 1099511627776).1)
       have hq2:=yu.out.heap ((Ext.refl [] _).drew.heap (heap_alloc_new w1 _) (by simp)) (by simpa using hn1)
       have hq3:=Rv.out.heap hq2 (by simpa using hn1)
       exact ⟨_,rfl,heap_setCell_same (heap_setCell_same hq3 _) _,H3.out.ext (((Ext.refl [w1.heap.size] w3).setCell (by simp) _).setCell (by simp) _) (by simpa using Ne.symm hn1),E.heap HB0.out (by simp),HX0.out.trans E (by simp)⟩)
 case rest =>
  obtain ⟨q,rfl,hq,hr,hb,hx⟩:=hcut
  clear hn1 H1 HX0 HB0 bX Kr
  generalize (Rd.text ⟨s,false⟩ 300).1=key at *
  generalize ((Rd.text ⟨s,false⟩ 300).2.num 1099511627776).1=ceil at *
  generalize ((Rd.text ⟨s,false⟩ 300).2.num 1099511627776).2=r at *
  have q0:wc.cell? ⟨q,0,none⟩=some (.string ⟨key.toArray⟩):=by rw [bM hq];rfl
  have q1:wc.cell? ⟨q,1,none⟩=some (.int .u64 ceil):=by rw [bM hq];rfl
  have b0:wc.cell? ⟨w.heap.size,0,none⟩=some (.string ⟨#[]⟩):=by rw [bM hb];rfl
  have b1:wc.cell? ⟨w.heap.size,1,none⟩=some (.int .u64 0):=by rw [bM hb];rfl
  have f0:wc.frozen? ⟨w.heap.size,0,none⟩=false:=iR hb
  have f1:wc.frozen? ⟨w.heap.size,1,none⟩=false:=iR hb
  have HR:=Lib.hid hr
  have HX:=Lib.hid hx
  have hblt:=jL hb
  have HBB:=Lib.hid hb
  clear hr hx hq hb
  go_wp2_with fail
  go_region_with (go_at_call 97;refine (Af 151 (w.heap.size+1) r _ (HR.out.ext (Ext.refl [] wc).drew (by simp))).mono ?_;rintro e w2 ⟨rfl,rfl⟩)
  all_goals
   go_wp2
   have hfin:=heap_setCell_same (o:=1) (heap_setCell_same (o:=0) HBB.out (.string ⟨key.toArray⟩)) (.int .u64 ceil)
   have Ov:((wc.setCell ⟨w.heap.size,0,none⟩ (.string ⟨key.toArray⟩)).setCell ⟨w.heap.size,1,none⟩ (.int .u64 ceil)).drew.heap[w.heap.size]? = some (.cells #[.string ⟨key.toArray⟩,.int .u64 ceil] 137 (0,0)):=hfin
   have HXF:Hid (Ext [] w ((wc.setCell ⟨w.heap.size,0,none⟩ (.string ⟨key.toArray⟩)).setCell ⟨w.heap.size,1,none⟩ (.int .u64 ceil)).drew):=((HX.out.setCell (.inr (Nat.le_refl _)) _).setCell (.inr (Nat.le_refl _)) _).drew
   clear hfin
   generalize ((wc.setCell ⟨w.heap.size,0,none⟩ (.string ⟨key.toArray⟩)).setCell ⟨w.heap.size,1,none⟩ (.int .u64 ceil)).drew=W at *
   have d0:W.cell? ⟨w.heap.size,0,none⟩=some (.string ⟨key.toArray⟩):=by rw [bM Ov];rfl
   have d1:W.cell? ⟨w.heap.size,1,none⟩=some (.int .u64 ceil):=by rw [bM Ov];rfl
   clear Ov
   refine bodyPost_ret (v:=.tuple #[.agg #[.string ⟨key.toArray⟩,.int .u64 ceil],.bool (decide (r.done=0))]) ?_ rfl ⟨by rw [HRT.out],HXF.out⟩
   simp [results,Tryz.results93,go_sem,d0,d1]
   try rfl
end
section
open Go.RowKit
abbrev gY (b:Nat) (o:Obj):aT where
 holds:=fun F w=>F=[b]∧w.heap[b]? = some o
 keeps:=fun h hx hd=>⟨h.1,hx.heap h.2 (hd b (by simp [h.1]))⟩
 inside:=fun h x hx=>by rw [h.1] at hx;simp at hx;subst hx;exact jL h.2
section
variable {w0 w w1 w2:World} {F0:List Nat} {L K:List aT}
theorem Ext.putObj {F:List Nat} {w w2:World} (h:Ext F w w2) {g:Nat} (hg:g∈F∨w.heap.size≤g) (o:Obj):Ext F w (w2.putObj g o) :=
 ⟨h.1,h.2,h.3,by simpa using h.4,fun k hk Xy=>by rw [World.putObj_heap_other (fun e=>by subst e;rcases hg with hg | hg;exact Xy hg;omega)];exact h.5 k hk Xy⟩
theorem Sp.Ow (S:Sp w0 F0 w L) (o:Obj):Sp w0 F0 (w.alloc o) (gY w.heap.size o::L) :=
 S.gain (G:=[w.heap.size]) ((Ext.refl [] w).alloc _) ⟨rfl,World.alloc_heap_new w o⟩ (by simp)
theorem Sp.oQ {b:Nat} {o:Obj} (S:Sp w0 F0 w (gY b o::L)):w.heap[b]? = some o:=by
 obtain ⟨F,⟨rfl,h⟩,_⟩:=S.take
 exact h
theorem Sp.mF {b:Nat} {o:Obj} (S:Sp w0 F0 w (gY b o::L)) (o2:Obj):Sp w0 F0 (w.putObj b o2) (gY b o2::L):=by
 obtain ⟨F,⟨rfl,h⟩,h2⟩:=S.take
 exact h2 _ _ [b] ⟨rfl,World.putObj_heap_same (jL h)⟩ (cB.iV ((Ext.refl _ w).putObj (by simp) o2))
theorem L8 {α β:Type} {f:α→β} {l l2:List β} (h:l.Perm l2):∀ {m:List α},m.map f=l→∃ m2,m.Perm m2∧m2.map f=l2:=by
 induction h with
 | nil=>intro m hm;exact ⟨m,.refl _,hm⟩
 | cons x _ ih =>
  intro m hm
  obtain ⟨a,m',rfl,rfl,rfl⟩:=List.map_eq_cons_iff.1 hm
  obtain ⟨m2,h1,h2⟩:=ih rfl
  exact ⟨a::m2,h1.cons a,by simp [h2]⟩
 | swap x y l =>
  intro m hm
  obtain ⟨a,m',rfl,rfl,hm'⟩:=List.map_eq_cons_iff.1 hm
  obtain ⟨b,m'',rfl,rfl,rfl⟩:=List.map_eq_cons_iff.1 hm'
  exact ⟨b::a::m'',List.Perm.swap ..,rfl⟩
 | trans _ _ ih1 ih2 =>
  intro m hm
  obtain ⟨m2,h1,h2⟩:=ih1 hm
  obtain ⟨m3,h3,h4⟩:=ih2 h2
  exact ⟨m3,h1.trans h3,h4⟩
theorem Sp.perm (S:Sp w0 F0 w L) (h:L.Perm K):Sp w0 F0 w K:=by
 obtain ⟨M,hM,hS⟩:=S
 obtain ⟨M2,h1,h2⟩:=L8 h hM
 exact ⟨M2,h2,hS.perm h1⟩
theorem Sp.front {A B:List aT} {r:aT} (S:Sp w0 F0 w (A++r::B)):Sp w0 F0 w (r::(A++B)):=S.perm List.perm_middle
theorem Sp.Kt {A B:List aT} {r:aT} (S:Sp w0 F0 w (r::(A++B))):Sp w0 F0 w (A++r::B):=S.perm List.perm_middle.symm
end
section
variable {P:Program} {F:Fence} {n:Nat}
def Cr {α:Type} (F:Fence) (n:Nat) (P:Program) (g:Nat) (lb:Array Value) (encs:α→Array Value) (w0:World) (F0:List Nat) (A:List α→List aT) (K0:List aT) (Y:List α→Prop) (T:List α→Prop):Prop :=
 ∀ (l:Nat) (K1:List aT) (X:World→Prop) (W:World),Sp w0 F0 W (A []++(K0++K1)) →
  (∀ (pre:List α) (x:α) (K:List aT) (W1:World),Y (pre++[x])→Sp w0 F0 W1 (A pre++(K++K1))→YieldAt F (n - 1) P l (encs x) W1 fun e W' =>
   (e=.returned (.bool true)∧Sp w0 F0 W' (A (pre++[x])++(K++K1)))∨(e=.returned (.bool false)∧X W')) →
  CallsIn F n P g (#[.func (.yield l) #[] #[]]++lb) W fun e W'=>(∃ v,e=.returned v)∧((∃ xs,T xs∧Sp w0 F0 W' (A xs++(K0++K1)))∨X W')
def U6 {α β:Type} (w0:World) (F0:List Nat) (A:List α→List aT) (B:Code→β→List aT) (q:Code→β→Prop) (xs:List α) (K:List aT):Exit→Act→World→Prop
 | .normal,_,W=>Sp w0 F0 W (A xs++K)
 | .ret,_,W=>∃ y,q .ret y∧Sp w0 F0 W (B .ret y++K)
 | .exit id,_,W=>∃ y,q (.exit id) y∧Sp w0 F0 W (B (.exit id) y++K)
 | .goto t,_,W=>∃ y,q (.goto t) y∧Sp w0 F0 W (B (.goto t) y++K)
 | .panic _,_,_=>False
 | .outgrown,_,_=>False
theorem ku {α β:Type} {g:Operand} {ps:Array Tmp} {assign body:Code} {Q:Exit→Act→World→Prop} {a:Act} {w w0:World} {F0:List Nat}
  (hro:F.round=none) (h1:1≤n) {gf:Nat} {lb:Array Value} (hg:a.eval g=.func (.func gf) #[] lb) (hFg:F.fn gf) (eg:∀ args w,(callFunc gf args).run P w=.ok (.enter gf args) w)
  {encs:α→Array Value} (hps:∀ x,(encs x).size=ps.size) {A:List α→List aT} {K0:List aT} {Y T:List α→Prop} (hseq:Cr F (n - 1) P gf lb encs w0 F0 A K0 Y T)
  (B:Code→β→List aT) (q:Code→β→Prop) (S:Sp w0 F0 w (A []++K0)) (a₁:α→Act)
  (hassign:∀ (l:Nat) (x:α) (W:World) (K:Act→World→Prop),K (a₁ x) W →
   assign.wpIn (F.inRound l) (n - 1 - 1) P (Exit.then K (fun _ _ _=>False)) { tmps:=(ps.zip (encs x)).foldl (fun t (p,v)=>t.setIfInBounds p v) a.tmps,defers:=[] } W)
  (hbody:∀ (l:Nat) (pre:List α) (x:α) (K:List aT) (W:World),Y (pre++[x])→Sp w0 F0 W (A pre++K)→body.wpIn (F.inRound l) (n - 1 - 1) P (U6 w0 F0 A B q (pre++[x]) K) (a₁ x) W)
  (hdone:∀ (D:Nat) (xs:List α) (K:List aT) (W:World),T xs→Sp w0 F0 W (gY D (.deferred (some []))::(A xs++(K0++K)))→Q .normal { a with defers:={ target:=.collected D,args:=#[] }::a.defers } W)
  (hstop:∀ (D:Nat) (c:Code) (y:β) (K:List aT) (W:World),q c y→Sp w0 F0 W (gY D (.deferred (some []))::(B c y++K))→c.wpIn F n P Q { a with defers:={ target:=.collected D,args:=#[] }::a.defers } W) :
  (Code.rangeFunc g ps assign body).wpIn F n P Q a w:=by
 refine wpIn_rangeFunc ?_
 intro fn hfn
 rw [hro]
 obtain ⟨rec,hrec⟩:∃ rec:LoopState→Option Code→Loop,rec=fun st pe=>{ state:=st,pending:=pe,fn,tmps:=a.tmps,params:=ps,assign,body,defers:=w.heap.size }:=⟨_,rfl⟩
 obtain ⟨D,hD⟩:∃ D,D=w.heap.size:=⟨_,rfl⟩
 obtain ⟨l,hl⟩:∃ l,l=w.heap.size+1:=⟨_,rfl⟩
 obtain ⟨W1,hW1⟩:∃ W1,(w.alloc (.deferred (some []))).alloc (.loop (rec .ready none))=W1:=⟨_,rfl⟩
 have S1:Sp w0 F0 W1 (A []++(K0++[gY l (.loop (rec .ready none)),gY D (.deferred (some []))])):=by
  have h:=(S.Ow (.deferred (some []))).Ow (.loop (rec .ready none))
  rw [World.size_alloc,hW1,← hl,← hD] at h
  exact h.perm (by
   rw [← List.append_assoc]
   exact List.perm_append_comm (l₁:=[gY l (.loop (rec .ready none)),gY D (.deferred (some []))]) (l₂:=A []++K0))
 refine ⟨l,[{ target:=.collected D,args:=#[] }],W1,{ target:=.fn (.func gf) lb,args:=#[.func (.yield l) #[] #[]] },W1,gf,
  #[.func (.yield l) #[] #[]]++lb,W1,?_,?_,?_,?_,fun _=>h1,?_⟩
 ·rw [← hW1,hrec,hD,hl];exact run_enterLoop_outer _ _ _ _ _
 ·simp only [resolve,hg]
  simp [go_sem]
 ·intro f' hf';simp [Target.leads] at hf';subst hf';exact hFg
 ·simp [invoke,go_sem,eg]
 ·have Zd:∀ {o:Obj} {A' K':List aT} {W:World},Sp w0 F0 W (A'++(K'++[gY l o,gY D (.deferred (some []))]))→Sp w0 F0 W (gY l o::((A'++K')++[gY D (.deferred (some []))])):=fun h=>by
   rw [← List.append_assoc] at h
   exact h.front
  have ofF:∀ {o:Obj} {A' K':List aT} {W:World},Sp w0 F0 W (gY l o::((A'++K')++[gY D (.deferred (some []))]))→Sp w0 F0 W (A'++(K'++[gY l o,gY D (.deferred (some []))])):=fun h=>by
   have:=h.Kt
   rw [List.append_assoc] at this
   exact this
  have toD:∀ (o:Obj) (A' K':List aT) (W:World),Sp w0 F0 W (gY l o::((A'++K')++[gY D (.deferred (some []))]))→Sp w0 F0 W (gY D (.deferred (some []))::(A'++(K'++[gY l o]))):=fun o A' K' W h =>
   h.perm (by
    refine ((List.perm_append_comm (l₁:=A'++K') (l₂:=[gY D (.deferred (some []))])).cons _).trans ?_
    refine (List.Perm.swap (gY D (.deferred (some []))) (gY l o) (A'++K')).trans ?_
    refine ((List.perm_append_comm (l₁:=[gY l o]) (l₂:=A'++K')).cons _).trans ?_
    rw [List.append_assoc])
  refine (hseq l [gY l (.loop (rec .ready none)),gY D (.deferred (some []))]
   (fun W=>∃ c y K,q c y∧Sp w0 F0 W (B c y++(K++[gY l (.loop (rec .done (some c))),gY D (.deferred (some []))]))) W1 S1 ?_).mono ?_
  ·
   intro pre x K W hy hS
   have hT:=Zd hS
   have hlo:=hT.oQ
   have hyd:=run_yield (P:=P) (args:=encs x) hlo (by rw [hrec];exact hps x)
   rw [hrec] at hyd
   refine ⟨fn,_,assign,body,hyd,roundIn_of_wpIn hfn (hassign _ x W _ ⟨_,run_beginRound hlo (by rw [hrec]),?_⟩)⟩
   have hB:=ofF (hT.mF (.loop { rec .ready none with state:=.busy }))
   refine wpIn_mono (hbody _ pre x _ _ hy hB) ?_
   have fin:∀ (jump:Option Code) (W3:World) (A':List aT),Sp w0 F0 W3 (A'++(K++[gY l (.loop { rec .ready none with state:=.busy }),gY D (.deferred (some []))])) →
     (Instr.endRound l jump).run P W3=.ok (.bool jump.isNone) (W3.putObj l (.loop (rec (if jump.isNone then .ready else .done) jump))) ∧
     Sp w0 F0 (W3.putObj l (.loop (rec (if jump.isNone then .ready else .done) jump))) (A'++(K++[gY l (.loop (rec (if jump.isNone then .ready else .done) jump)),gY D (.deferred (some []))])):=fun jump W3 A' h3=>by
    have hT3:=Zd h3
    have:=run_endRound (P:=P) jump hT3.oQ
    rw [hrec] at this ⊢
    exact ⟨this,ofF (hT3.mF _)⟩
   rintro e a3 W3 hp
   cases e with
   | normal =>
    obtain ⟨hr,h4⟩:=fin none W3 _ hp
    exact ⟨_,_,hr,.inl ⟨rfl,h4⟩⟩
   | ret =>
    obtain ⟨y,hq,h3⟩:=hp
    obtain ⟨hr,h4⟩:=fin (some .ret) W3 _ h3
    exact ⟨_,_,hr,.inr ⟨rfl,.ret,y,K,hq,h4⟩⟩
   | exit id =>
    obtain ⟨y,hq,h3⟩:=hp
    obtain ⟨hr,h4⟩:=fin (some (.exit id)) W3 _ h3
    exact ⟨_,_,hr,.inr ⟨rfl,.exit id,y,K,hq,h4⟩⟩
   | goto t =>
    obtain ⟨y,hq,h3⟩:=hp
    obtain ⟨hr,h4⟩:=fin (some (.goto t)) W3 _ h3
    exact ⟨_,_,hr,.inr ⟨rfl,.goto t,y,K,hq,h4⟩⟩
   | panic ch=>exact hp.elim
   | outgrown=>exact hp.elim
  ·
   rintro e W2 ⟨⟨v,rfl⟩,(⟨xs,hT,h3⟩ | ⟨c,y,K,hq,h3⟩)⟩
   ·have hF:=Zd h3
    exact ⟨none,_,by have:=run_endLoop (P:=P) hF.oQ (by rw [hrec];simp);rw [hrec] at this;exact this,hdone D xs [gY l (.loop { rec .ready none with state:=.exhausted })] _ hT (by have:=toD _ _ _ _ (hF.mF (.loop { rec .ready none with state:=.exhausted }));rw [hrec] at this ⊢;exact this)⟩
   ·have hF:=Zd h3
    exact ⟨some c,_,by have:=run_endLoop (P:=P) hF.oQ (by rw [hrec];simp);rw [hrec] at this;exact this,hstop D c y (K++[gY l (.loop { rec .done (some c) with state:=.exhausted })]) _ hq (by have:=toD _ _ _ _ (hF.mF (.loop { rec .done (some c) with state:=.exhausted }));rw [hrec] at this ⊢;exact this)⟩
end
end
end Go.Proofs.YtangbdahnmomlaaGreatDoor
