/- strings.Builder, alone or as another struct's first part (pack.Out): WriteString and String. Conditions: the lengths fit. -/
import Derived.Laws.Externs
import Derived.Lib.FrozenHead
import Derived.Lib.UnsafeStr
import Derived.Test.YtangbdahnmomlaaGreatDoorBu07
set_option linter.unnecessarySimpa false
set_option linter.unusedSimpArgs false
set_option linter.unusedVariables false
set_option maxHeartbeats 1000000
set_option maxRecDepth 100000
namespace Go.Proofs.YtangbdahnmomlaaGreatDoor
section
open Go.RowKit Go.Maps
def Aj (T:TypeId) (w:World) (b:Nat) (F:List Nat) (l:Bs):Prop :=
 ∃ p v,(p=.pointer none∨p=.pointer (some ⟨b,0,none⟩))∧w.heap[b]? = some (.cells #[p,v] T (0,0))∧w.ownsRowF 0 5 1 v l.length (l.map bv)∧v.ownBlock≠some b∧F=b::v.ownBlock.toList
structure Fz (T:TypeId):Prop where
 lies:liesAt Tryz.prog Tryz.prog.depth T (2 / Tryz.prog.cellsOf T) 0 176 1=true
 ne:T≠5
theorem uM {P:Program} {w w1:World} {ops:Array Oper} {rest:List Oper} {o:Oper} {a:Act} {Q:Exit→Act→World→Prop} {s x:Operand} {t t2:TypeId} {v u r:Value} (hgd:o.guard=none)
  (ho:o.op=.call { callee:=.builtin .append,args:=#[s,x],argTypes:=#[t,t2] }) (hs:a.eval s=v) (hx:a.eval x=u)
  (hr:(Builtin.append_ #[t,t2] o.type #[v,u]).run P w=.ok r w1) (h:wpList P ops Q rest (a.put o.dst r) w1):wpList P ops Q (o::rest) a w:=by
 refine wpList_plain hgd fun K hK=>?_
 unfold Oper.wp execOp
 simp only [ho,resolve,invoke,builtin,Sem.run_bind,Sem.run_pure,Result.andThen_ok,List.map_toArray,List.map_cons,List.map_nil,hs,hx,hr]
 exact hK _ _ h
theorem Ak {F:List Nat} {w w2:World} {base:Nat} {e:TypeId} {size:Nat} {v:Value} {n:Nat} {xs:List Value} (h:w.ownsRowF base e size v n xs) (hx:Ext F w w2) (hv:∀ k,v.ownBlock=some k→k∉F):w2.ownsRowF base e size v n xs:=by
 refine ⟨h.1,?_⟩
 rcases h.2 with hn | ⟨g,cap,cur,fz,rfl,hb,hgg,rest⟩
 ·exact .inl hn
 ·exact .inr ⟨g,cap,cur,fz,rfl,hb,hx.heap hgg (hv g rfl),rest⟩
theorem Aj.ext {T:TypeId} {w w2:World} {b:Nat} {F G:List Nat} {l:Bs} (h:Aj T w b F l) (hx:Ext G w w2) (hd:∀ x∈F,x∉G):Aj T w2 b F l:=by
 obtain ⟨p,v,hp,hb,hr,hn,rfl⟩:=h
 exact ⟨p,v,hp,hx.heap hb (hd _ (by simp)),Ak hr hx (fun k hk=>hd _ (by simp [hk])),hn,rfl⟩
theorem Aj.lt {T:TypeId} {w:World} {b:Nat} {F:List Nat} {l:Bs} (h:Aj T w b F l):∀ x∈F,x<w.heap.size:=by
 obtain ⟨p,v,hp,hb,hr,hn,rfl⟩:=h
 intro x hx
 simp only [List.mem_cons,Option.mem_toList] at hx
 rcases hx with rfl | hx
 ·exact jL hb
 ·exact (hr.lt _ hx).2
theorem Ko:(Tryz.prog.info? 176).map (·.size)=some 2:=by kernel_rfl
theorem infoByte:(Tryz.prog.info? 5).map (fun i=>(i.zero,i.size,i.bytes))=some (some (.int .u8 0),1,1):=by kernel_rfl
theorem Oo:Fz 176:=⟨by kernel_rfl,by decide⟩
theorem Uf:Fz 203:=⟨by kernel_rfl,by decide⟩
theorem FB (T b:Nat) (w:World) (hT:Fz T) (h0:w.cell? ⟨b,0,none⟩=some (.pointer none)) (hsh:w.shape? b=some (T,2)) (hfz:w.frozen? ⟨b,0,none⟩=false) :
  Calls Tryz.prog 127 #[.pointer (some ⟨b,0,none⟩)] w fun e w2=>e=.returned (.tuple #[])∧w.setCell ⟨b,0,none⟩ (.pointer (some ⟨b,0,none⟩))=w2:=by
 obtain ⟨j,hj,hjs⟩:=Option.map_eq_some_iff.1 Ko
 have Ij:=Lib.hid hsh
 have HJ:=Lib.hid hj
 have HJS:=Lib.hid hjs
 clear hsh hj hjs
 go_enter Tryz.func127,Tryz.ntmps127
 go_wp2
 rw [Lib.run_to_unsafe w ⟨b,0,none⟩ Tryz.underlying174 Tryz.underlying251 HJ.out (by rw [HJS.out];decide) Ij.out (Nat.zero_lt_succ 1)]
 simp only [Result.andThen]
 rw [Oper.upon_value]
 go_wp2
 rw [run_callFunc_extern Tryz.func170 (by kernel_rfl) (by kernel_rfl) (by kernel_rfl) (e:=Extern.AbiNoEscape.same) (by kernel_rfl)]
 rw [Lib.run_noEscape]
 simp only [Result.andThen]
 rw [Oper.upon_value]
 go_wp2
 rw [Lib.run_from_unsafe w ⟨b,0,none⟩ Tryz.underlying251 Tryz.underlying174 HJ.out Ij.out hT.lies]
 simp only [Result.andThen]
 rw [Oper.upon_value]
 go_wp2
 go_end0
 exact ⟨rfl,rfl⟩
theorem IU (b:Nat) (w:World) (h0:w.cell? ⟨b,0,none⟩=some (.pointer (some ⟨b,0,none⟩))) :
  Calls Tryz.prog 127 #[.pointer (some ⟨b,0,none⟩)] w fun e w2=>e=.returned (.tuple #[])∧w=w2:=by
 obtain ⟨j,hj,_⟩:=Option.map_eq_some_iff.1 Ko
 have HJ:=Lib.hid hj
 clear hj
 go_enter Tryz.func127,Tryz.ntmps127
 go_wp2
 rw [Lib.run_neq_ptr_same w _ Tryz.underlying174 HJ.out]
 go_wp2
 go_end0
 exact ⟨rfl,rfl⟩
theorem LX (T b:Nat) (F:List Nat) (l:Bs) (w:World) (hT:Fz T) (h:Aj T w b F l) :
  Calls Tryz.prog 127 #[.pointer (some ⟨b,0,none⟩)] w fun e w2=>e=.returned (.tuple #[])∧∃ v,w2.heap[b]? = some (.cells #[.pointer (some ⟨b,0,none⟩),v] T (0,0))∧w2.ownsRowF 0 5 1 v l.length (l.map bv)∧v.ownBlock≠some b∧F=b::v.ownBlock.toList∧Ext [b] w w2:=by
 obtain ⟨p,v,hp,hb,hr,hn,rfl⟩:=h
 rcases hp with rfl | rfl
 ·refine (FB T b w hT (by rw [bM hb];rfl) (by simp [World.shape?,hb]) (iR hb)).mono ?_
  rintro e w2 ⟨rfl,rfl⟩
  have hx:Ext [b] w (w.setCell ⟨b,0,none⟩ (.pointer (some ⟨b,0,none⟩))):=(Ext.refl [b] w).setCell (by simp) _
  exact ⟨rfl,v,by rw [heap_setCell_same hb];rfl,Ak hr hx (fun k hk=>by simp;rintro rfl;exact hn hk),hn,rfl,hx⟩
 ·refine (IU b w (by rw [bM hb];rfl)).mono ?_
  rintro e w2 ⟨rfl,rfl⟩
  exact ⟨rfl,v,hb,hr,hn,rfl,Ext.refl _ _⟩
theorem FC (w:World) (v:Value) (l s:Bs) (hown:w.ownsRowF 0 5 1 v l.length (l.map bv)) (hlen:l.length+s.length≤100000000000000) :
  ∃ v2 w2,(∀ ty,(Builtin.append_ #[79,9] ty #[v,.string ⟨s.toArray⟩]).run Tryz.prog w=.ok v2 w2)∧w2.ownsRowF 0 5 1 v2 (l++s).length ((l++s).map bv)∧Ext v.ownBlock.toList w w2 ∧
   (∀ k,v2.ownBlock=some k→v.ownBlock=some k∨w.heap.size≤k)∧∃ a n c,v2=.slice a n c:=by
 obtain ⟨i0,hi0,hz0,hz1,hz2⟩:=info_parts infoByte
 have hbs:(ByteArray.mk s.toArray).size=s.length:=by simp [ByteArray.size]
 have U5:Lib.strCells ⟨s.toArray⟩=s.map bv:=rfl
 have form:∀ {w':World} {v':Value} {n:Nat} {xs:List Value},w'.ownsRowF 0 5 1 v' n xs→∃ a n c,v'=.slice a n c:=fun h=>by
  rcases h.2 with ⟨hv,_⟩ | ⟨g,cap,cur,fz,hv,_⟩
  ·exact ⟨_,_,_,hv⟩
  ·exact ⟨_,_,_,hv⟩
 rcases hown.2 with ⟨rfl,h0⟩ | ⟨g,cap,cur,fz,rfl,hbg,hg,hfz,hnc,hcm,hcs,htake⟩
 ·have hl:l=[]:=List.eq_nil_of_length_eq_zero h0
  subst hl
  obtain ⟨v2,w2,hr,h2,h3,_⟩:=Lib.run_append_own_string (P:=Tryz.prog) w w.heap.size 79 9 0 5 i0 Tryz.underlying79 Tryz.underlying9 hi0 hz0 hz1 hz2 (.slice none 0 0) 0 [] ⟨by simp,.inl ⟨rfl,rfl⟩⟩ ⟨s.toArray⟩ (by simp [maxLen,hbs];simp at hlen;omega) (by rw [hbs];simp at hlen;omega) (Nat.le_refl _)
  have h2':w2.ownsRow 0 5 1 v2 ([]++s).length (([]++s).map bv):=by
   refine ⟨by simp,?_⟩
   have:=h2.2
   rw [hbs,U5] at this
   simp only [Nat.zero_add,List.nil_append] at this ⊢
   rcases this with h | ⟨g,cap,cur,a1,_,a3⟩
   ·exact .inl h
   ·exact .inr ⟨g,cap,cur,a1,Nat.zero_le _,a3⟩
  exact ⟨v2,w2,fun _=>hr,World.ownsRowF_of h2',(Ext.refl _ w).grown h3 (by simp [Value.ownBlock]),fun k hk=>.inr (h2.lt k hk).1,form (World.ownsRowF_of h2')⟩
 ·have hxl:(l.map bv).length=l.length:=by simp
  have Kq:((l++s).map bv).length=(l++s).length*1:=by simp
  have hcs':cur.size=cap:=by simpa using hcs
  by_cases hroom:l.length+s.length≤cap
  ·have hr:=fun ty=>Lib.run_append_room_stringF (P:=Tryz.prog) w 79 9 ty 5 i0 Tryz.underlying79 Tryz.underlying9 hi0 hz1 g l.length cap cur fz hg (by simpa using hfz) ⟨s.toArray⟩ (by rw [hbs];exact hroom) (by omega)
   have hO:World.ownsRowF (w.setRow g (cur.toList.take l.length++Lib.strCells ⟨s.toArray⟩++cur.toList.drop (l.length+(ByteArray.mk s.toArray).size)).toArray) 0 5 1 (.slice (some ⟨g,0,none⟩) (l.length+(ByteArray.mk s.toArray).size) cap) (l++s).length ((l++s).map bv):=by
    refine ⟨Kq,.inr ⟨g,cap,_,fz,by rw [hbs,List.length_append],Nat.zero_le _,setRow_heap w g cur _ _ _ hg,by rw [List.length_append];omega,by rw [List.length_append];omega,hcm,?_,?_⟩⟩
    ·simp only [List.size_toArray,List.length_append,List.length_take,List.length_drop,Array.length_toList,Lib.strCells_length,hbs]
     omega
    ·have ht':cur.toList.take l.length=l.map bv:=by simpa using htake
     rw [ht',U5,← List.map_append,← Kq]
     exact List.take_left
   refine ⟨_,_,hr,hO,⟨rfl,rfl,rfl,by simp,fun k _ hk=>setRow_other w g k _ (fun e=>hk (by simp [Value.ownBlock,e]))⟩,fun k hk=>.inl ?_,⟨_,_,_,rfl⟩⟩
   simp only [Value.ownBlock] at hk ⊢
   exact hk
  ·have holds:∀ j u,(l.map bv)[j]? = some u→w.cell? ((⟨g,0,none⟩:Addr).add j)=some u:=hown.cells (g:=g) rfl
   have hr:=fun ty=>Lib.run_append_grow_string (P:=Tryz.prog) w 79 9 ty 5 i0 (.int .u8 0) Tryz.underlying79 Tryz.underlying9 hi0 hz0 ⟨g,0,none⟩ l.length cap (l.map bv) (by rw [hz1];simp) holds ⟨s.toArray⟩ (by rw [hbs];omega) (by rw [hbs];omega) (by rw [hz2];exact growslice_fits (by rw [hbs];omega) (by rw [hbs];omega))
   have hge:=grownCap_ge w (l.length+(ByteArray.mk s.toArray).size) cap 5
   have hcm2:grownCap w (l.length+(ByteArray.mk s.toArray).size) cap 5≤maxLen:=grownCap_le_maxLen w _ cap 5 (by rw [hbs];simp [maxLen];omega)
   have hnew:=heap_alloc_new w.drew (.cells ((l.map bv).toArray++(Lib.strCells ⟨s.toArray⟩).toArray++Builtin.zeroCells (Value.int .u8 0).cells (grownCap w (l.length+(ByteArray.mk s.toArray).size) cap 5 - (l.length+(ByteArray.mk s.toArray).size))) 5)
   refine ⟨_,_,hr,⟨Kq,.inr ⟨w.heap.size,_,_,(0,0),by rw [hbs,List.length_append],Nat.zero_le _,hnew,Nat.zero_le _,by rw [List.length_append];rw [hbs] at hge;exact hge,hcm2,?_,?_⟩⟩,⟨rfl,rfl,rfl,by simp,fun k hk _=>heap_alloc_old w.drew _ hk⟩,fun k hk=>.inr ?_,⟨_,_,_,rfl⟩⟩
   ·have hz1:(Value.int IntKind.u8 0).cells.size=1:=rfl
    simp only [Array.size_append,List.size_toArray,size_zeroCells,hz1,Lib.strCells_length,List.length_map]
    omega
   ·simp only [Array.toList_append,List.append_assoc]
    rw [U5,← List.append_assoc,← Kq]
    have:(l.map bv).toArray.toList++(s.map bv).toArray.toList=(l++s).map bv:=by simp
    rw [this]
    exact List.take_left
   ·simp only [Value.ownBlock,Option.some.injEq] at hk
    omega
theorem pU (T b:Nat) (F:List Nat) (l s:Bs) (w:World) (hT:Fz T) (h:Aj T w b F l) (hlen:l.length+s.length≤100000000000000) :
  Calls Tryz.prog 89 #[.pointer (some ⟨b,0,none⟩),.string ⟨s.toArray⟩] w fun e w2=>e=.returned (.tuple #[.int .i64 s.length,.nilIface])∧∃ F2,Aj T w2 b F2 (l++s)∧cB F w w2 F2:=by
 have H:=Lib.hid h
 have HL:=Lib.hid hlen
 clear h hlen
 go_enter Tryz.func89,Tryz.ntmps89
 go_wp2_with fail
 refine (LX T b F l w hT H.out).mono ?_
 rintro e w1 ⟨rfl,v,hb,hr,hn,hF,hx⟩
 obtain ⟨v2,w2,hrun,hr2,hg,hv2,hsl⟩:=FC w1 v l s hr HL.out
 have hb2:w2.heap[b]? = some (.cells #[.pointer (some ⟨b,0,none⟩),v] T (0,0)):=hg.heap hb (by simpa using hn)
 have c1:w1.cell? ⟨b,1,none⟩=some v:=by rw [bM hb];rfl
 have d1:w2.cell? ⟨b,1,none⟩=some v:=by rw [bM hb2];rfl
 have f1:w2.frozen? ⟨b,1,none⟩=false:=iR hb2
 have hne:=Lib.ownBlock_neF hr2 hb2 hT.ne
 have HB:Hid (∃ F2,Aj T (w2.setCell ⟨b,1,none⟩ v2) b F2 (l++s)∧cB F w (w2.setCell ⟨b,1,none⟩ v2) F2):=by
  have hx2:Ext [b] w2 (w2.setCell ⟨b,1,none⟩ v2):=(Ext.refl [b] w2).setCell (by simp) _
  refine ⟨b::v2.ownBlock.toList,⟨_,v2,.inr rfl,by rw [heap_setCell_same hb2];rfl,Ak hr2 hx2 (fun k hk=>by simp;rintro rfl;exact hne hk),hne,rfl⟩,⟨?_,?_⟩⟩
  ·rw [hF]
   exact ((hx.mono (by simp)).trans hg (fun x hx=>.inl (List.mem_cons_of_mem _ hx))).trans hx2 (by simp)
  ·intro x hx'
   rw [hF]
   simp only [List.mem_cons,Option.mem_toList] at hx' ⊢
   rcases hx' with rfl | hx'
   ·exact .inl (.inl rfl)
   ·rcases hv2 x hx' with h | h
    ·exact .inl (.inr h)
    ·exact .inr (by have:=hx.size;omega)
 obtain ⟨a2,n2,cap2,rfl⟩:=hsl
 have pV:=Lib.hid hrun
 clear hr2 hg hv2 hb hb2 hr hn hx hne hF hrun
 go_wp2_with (at_builtin;refine uM (by rfl) (by rfl) (by rfl) (by rfl) (pV.out _) ?_)
 go_ret2
 exact ⟨rfl,HB.out⟩
theorem oD (T b:Nat) (F:List Nat) (l:Bs) (w:World) (h:Aj T w b F l) (h0:l≠[]) :
  Calls Tryz.prog 90 #[.pointer (some ⟨b,0,none⟩)] w fun e w2=>e=.returned (.string ⟨l.toArray⟩)∧Ext F w w2:=by
 obtain ⟨p,v,hp,hb,hr,hn,rfl⟩:=h
 ·have hl0:l.length≠0:=by simpa using h0
  obtain ⟨g,cap,cur,fz,rfl,hbg,hg,hfz,hnc,hcm,hcs,htake⟩:∃ g cap cur fz,v=.slice (some ⟨g,0,none⟩) l.length cap∧0≤g∧w.heap[g]? = some (.cells cur 5 fz)∧fz.2≤l.length*1∧l.length≤cap∧cap≤maxLen∧cur.size=cap*1∧cur.toList.take (l.length*1)=l.map bv:=by
   rcases hr.2 with ⟨_,hz⟩ | ⟨g,cap,cur,fz,hv,r⟩
   ·exact absurd hz hl0
   ·exact ⟨g,cap,cur,fz,hv,r⟩
  have c1:w.drew.cell? ⟨b,1,none⟩=some (.slice (some ⟨g,0,none⟩) l.length cap):=by
   have:w.drew.heap[b]? = some (.cells #[p,.slice (some ⟨g,0,none⟩) l.length cap] T (0,0)):=hb
   rw [bM this];rfl
  have hSD:∀ ts ty,(Builtin.unsafeSliceData_ ts ty #[.slice (some ⟨g,0,none⟩) l.length cap]).run Tryz.prog w.drew=.ok (.pointer (some ⟨g,0,none⟩)) w.drew:=fun ts ty=>Lib.run_unsafeSliceData_row _ _ _ _ _ _ (by omega)
  have hUS:(Builtin.unsafeString_ #[215,3] 9 #[.pointer (some ⟨g,0,none⟩),.int .i64 l.length]).run Tryz.prog w.drew=.ok (.string ⟨l.toArray⟩) (w.drew.freeze ⟨g,0,none⟩ l.length):=by
   refine Lib.run_unsafeString_row w.drew 215 3 9 5 Tryz.underlying215 (by kernel_rfl) g cur.size (by have hg':w.drew.heap[g]? = some (.cells cur 5 fz):=hg;simp [World.shape?,hg']) l h0 (by omega) (by unfold maxLen at hcm;omega) ?_
   intro j x hx
   have:=hr.cells (g:=g) rfl j (.int .u8 x.toNat) (by simp [hx])
   exact this
  have HX:Hid (Ext (b::[g]) w (w.drew.freeze ⟨g,0,none⟩ l.length)):=by
   have h1:Ext [g] w.drew (w.drew.freeze ⟨g,0,none⟩ l.length):=by
    unfold World.freeze
    split
    ·exact Ext.refl _ _
    ·exact ⟨rfl,rfl,rfl,by simp,fun k _ hk=>by simp only [Array.getElem?_modify];rw [if_neg (by simp at hk;exact fun e=>hk e.symm)]⟩
   exact (Ext.refl _ w).drew.trans h1 (by simp)
  clear hb hr hn hg hfz hnc hcm hcs htake hl0 h0 hp
  go_enter Tryz.func90,Tryz.ntmps90
  go_wp2
  go_region
  all_goals (go_wp2;go_ret;exact ⟨rfl,HX.out⟩)
theorem yw (b:Nat) (F:List Nat) (l s:Bs) (w:World) (h:Aj 203 w b F l) (hl:l.length≤1000000000000) (hs:s.length≤1000000000000) :
  Calls Tryz.prog 118 #[.pointer (some ⟨b,0,none⟩),.string ⟨s.toArray⟩] w fun e w2=>e=.returned (.tuple #[])∧∃ F2,Aj 203 w2 b F2 (l++aN s)∧cB F w w2 F2:=by
 have H:=Lib.hid h
 have HL:=Lib.hid hl
 have HS:=Lib.hid hs
 clear h hl hs
 go_enter Tryz.func118,Tryz.ntmps118
 go_wp2
 go_region_with (first | (go_at_call 119;refine (pR s _ HS.out).mono ?_;rintro e w2 ⟨rfl,hx⟩;have HX:=Lib.hid ((Ext.refl [] w).drew.trans hx (by simp));clear hx) | (go_at_call 89;refine (pU 203 b F l (aN s) _ Uf (H.out.ext HX.out (by simp)) (by have:=aP s;have:=HL.out;have:=HS.out;omega)).mono ?_;rintro e w3 ⟨rfl,hb3⟩;have HB:=Lib.hid hb3;clear hb3))
 all_goals
  go_wp2
  go_end0
  obtain ⟨F2,h2,m2⟩:=HB.out
  exact ⟨rfl,F2,h2,(cB.xu HX.out).trans m2⟩
theorem Al (b:Nat) (F:List Nat) (l:Bs) (n:Nat) (w:World) (h:Aj 203 w b F l) (hl:l.length≤1000000000000) (hn:n<18446744073709551616) :
  Calls Tryz.prog 117 #[.pointer (some ⟨b,0,none⟩),.int .u64 n] w fun e w2=>e=.returned (.tuple #[])∧∃ F2,Aj 203 w2 b F2 (l++bJ n)∧cB F w w2 F2:=by
 have H:=Lib.hid h
 have HL:=Lib.hid hl
 have HN:=Lib.hid hn
 clear h hl hn
 go_enter Tryz.func117,Tryz.ntmps117
 go_wp2
 go_region_with (first | (go_at_call 141;refine (rD n _ HN.out).mono ?_;rintro e w2 ⟨rfl,hx⟩;have HX:=Lib.hid ((Ext.refl [] w).drew.trans hx (by simp));clear hx) | (go_at_call 89;refine (pU 203 b F l (bJ n) _ Uf (H.out.ext HX.out (by simp)) (by have:=aL n;have:=HL.out;omega)).mono ?_;rintro e w3 ⟨rfl,hb3⟩;have HB:=Lib.hid hb3;clear hb3))
 all_goals
  go_wp2
  go_end0
  obtain ⟨F2,h2,m2⟩:=HB.out
  exact ⟨rfl,F2,h2,(cB.xu HX.out).trans m2⟩
end
end Go.Proofs.YtangbdahnmomlaaGreatDoor
