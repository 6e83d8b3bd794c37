/- What the other texts of this seat lean on: worlds that differ in some blocks alone, Go's strings as lists of bytes, and maps from strings to -/
import Derived.Deep.Draws
import Derived.Laws.Externs
import Derived.Lib.Hide
import Derived.MapKept
import Derived.Maps.Ext
import Derived.Maps.StringElems
import Derived.Shelf.SlMaps.Clone
import Derived.Test.YtangbdahnmomlaaGreatDoorChecked
import Derived.WalkKit
import Derived.WalkLawsBesides
import Derived.WalkSpells
set_option linter.unnecessarySimpa false
set_option linter.unusedSimpArgs false
set_option linter.unusedVariables false
set_option maxHeartbeats 1000000
set_option maxRecDepth 100000
namespace Go.Proofs.YtangbdahnmomlaaGreatDoor
section
open Go.RowKit Go.Maps
open Go.WideMaps (keyOf_string_mk string_of_keyOf)
abbrev Bs:=List UInt8
structure Ext (F:List Nat) (w w2:World):Prop where
 os:w2.os=w.os
 tape:w2.tape=w.tape
 output:w2.output=w.output
 size:w.heap.size≤w2.heap.size
 block:∀ k,k<w.heap.size→k∉F→w2.heap[k]? = w.heap[k]?
theorem Ext.refl (F:List Nat) (w:World):Ext F w w:=⟨rfl,rfl,rfl,Nat.le_refl _,fun _ _ _=>rfl⟩
theorem Ext.trans {F G:List Nat} {a b c:World} (h:Ext F a b) (k:Ext G b c) (hG:∀ x∈G,x∈F∨a.heap.size≤x):Ext F a c :=
 ⟨k.os.trans h.os,k.tape.trans h.tape,k.output.trans h.output,Nat.le_trans h.size k.size,fun i hi hF =>
  (k.block i (Nat.lt_of_lt_of_le hi h.size) (fun hg=>(hG i hg).elim (fun h1=>hF h1) (fun h1=>by omega))).trans (h.block i hi hF)⟩
theorem Ext.mono {F G:List Nat} {a b:World} (h:Ext F a b) (hG:∀ x∈F,x∈G∨a.heap.size≤x):Ext G a b :=
 (Ext.refl G a).trans h hG
theorem Ext.drew {F:List Nat} {a w:World} (h:Ext F a w):Ext F a w.drew:=⟨h.os,h.tape,h.output,h.size,h.block⟩
theorem Ext.drewN {F:List Nat} {a w:World} (h:Ext F a w) (n:Nat):Ext F a (w.drewN n):=⟨h.os,h.tape,h.output,h.size,h.block⟩
theorem Ext.alloc {F:List Nat} {a w:World} (h:Ext F a w) (o:Obj):Ext F a (w.alloc o) :=
 h.trans (G:=[]) ⟨rfl,rfl,rfl,by simp,fun k hk _=>Below.heap_alloc _ _ _ hk⟩ (by simp)
theorem Ext.setCell {F:List Nat} {a w:World} (h:Ext F a w) {p:Addr} (hp:p.block∈F∨a.heap.size≤p.block) (u:Value):Ext F a (w.setCell p u) :=
 h.trans (G:=[p.block]) ⟨rfl,rfl,rfl,by simp [World.setCell],fun k _ hk=>Below.heap_setCell _ _ _ _ (by simpa using hk)⟩ (by simpa using hp)
theorem Ext.grown {F:List Nat} {a w w2:World} {row:Option Nat} (h:Ext F a w) (hg:w.grownBy w2 row) (hr:∀ k,row=some k→k∈F∨a.heap.size≤k):Ext F a w2 :=
 h.trans (G:=row.toList) ⟨hg.os,hg.tape,hg.output,hg.size,fun k hk hn=>hg.block k hk (fun e=>hn (by simp [← e]))⟩ (by intro x hx;exact hr x (by simpa using hx))
theorem Ext.below {F:List Nat} {a w:World} (h:Ext F a w) {B:Nat} (hB:B≤a.heap.size) (hF:∀ x∈F,B≤x):Below B a w :=
 ⟨h.os,h.tape,h.output,h.size,fun k hk=>h.block k (by omega) (fun hx=>by have:=hF k hx;omega)⟩
theorem Ext.of_below {a w:World} (h:Below a.heap.size a w):Ext [] a w:=⟨h.os,h.tape,h.output,h.size,fun k hk _=>h.block k hk⟩
theorem Ext.cell {F:List Nat} {a w:World} (h:Ext F a w) {p:Addr} {v:Value} (hc:a.cell? p=some v) (hp:p.block∉F):w.cell? p=some v :=
 (World.cell?_of_block (h.block p.block (World.block_lt_of_cell? a p hc) hp)).trans hc
theorem Ext.heap {F:List Nat} {a w:World} (h:Ext F a w) {b:Nat} {o:Obj} (hb:a.heap[b]? = some o) (hp:b∉F):w.heap[b]? = some o :=
 (h.block b (Array.getElem?_eq_some_iff.1 hb).1 hp).trans hb
theorem jL {w:World} {b:Nat} {o:Obj} (h:w.heap[b]? = some o):b<w.heap.size:=(Array.getElem?_eq_some_iff.1 h).1
structure cB (F:List Nat) (w w2:World) (F2:List Nat):Prop where
 ext:Ext F w w2
 new:∀ x∈F2,x∈F∨w.heap.size≤x
theorem cB.refl (F:List Nat) (w:World):cB F w w F:=⟨Ext.refl F w,fun _ h=>.inl h⟩
theorem cB.trans {F F1 F2:List Nat} {w w1 w2:World} (h:cB F w w1 F1) (k:cB F1 w1 w2 F2):cB F w w2 F2 :=
 ⟨h.ext.trans k.ext h.new,fun x hx=>(k.new x hx).elim (fun h1=>h.new x h1) (fun h1=>.inr (by have:=h.ext.size;omega))⟩
theorem cB.iV {F:List Nat} {w w2:World} (h:Ext F w w2):cB F w w2 F:=⟨h,fun _ h=>.inl h⟩
theorem cB.xu {F:List Nat} {w w2:World} (h:Ext [] w w2):cB F w w2 F:=⟨h.mono (by simp),fun _ h=>.inl h⟩
theorem dw {a b:Bool} (h:a=b):Ending.returned (.bool a)=Ending.returned (.bool b):=by rw [h]
theorem Kg {k:IntKind} {a b:Int} (h:a=b):Ending.returned (.int k a)=Ending.returned (.int k b):=by rw [h]
theorem fF {F:List Nat} {w w2:World} {base:Nat} {e:TypeId} {size:Nat} {v:Value} {n:Nat} {xs:List Value} (h:w.ownsRow base e size v n xs) (hx:Ext F w w2) (hv:∀ k,v.ownBlock=some k→k∉F):w2.ownsRow base e size v n xs:=by
 refine ⟨h.1,?_⟩
 rcases h.2 with hn | ⟨g,cap,cur,rfl,hb,hgg,rest⟩
 ·exact .inl hn
 ·exact .inr ⟨g,cap,cur,rfl,hb,hx.heap hgg (hv g rfl),rest⟩
theorem qR {P:Program} {w w1:World} {ops:Array Oper} {o:Oper} {a:Act} {K:Act→World→Prop} {Q:Exit→Act→World→Prop} {E:Prop} {s x:Operand} {t:TypeId} {v u r:Value} (hgd:o.guard=none)
  (ho:o.op=.call { callee:=.builtin .append,args:=#[s,x],argTypes:=#[t,t] }) (hs:a.eval s=v) (hx:a.eval x=u)
  (hr:(Builtin.append_ #[t,t] o.type #[v,u]).run P w=.ok r w1) (h:K (a.put o.dst r) w1):if Region.wanted o (yielded ops a.tmps)=true then Oper.wp P o a w K Q else E:=by
 have hw:Region.wanted o (yielded ops a.tmps)=true:=by simp [Region.wanted,hgd]
 rw [if_pos hw]
 unfold Oper.wp execOp
 simp only [ho,resolve,invoke,builtin,Sem.run_bind,Sem.run_pure,Result.andThen_ok,List.map_toArray,List.map_cons,List.map_nil,hs,hx,hr]
 exact h
theorem wpList_append_run {P:Program} {w w1:World} {ops:Array Oper} {rest:List Oper} {o:Oper} {a:Act} {Q:Exit→Act→World→Prop} {s x:Operand} {t:TypeId} {v u r:Value} (hgd:o.guard=none)
  (ho:o.op=.call { callee:=.builtin .append,args:=#[s,x],argTypes:=#[t,t] }) (hs:a.eval s=v) (hx:a.eval x=u)
  (hr:(Builtin.append_ #[t,t] o.type #[v,u]).run P w=.ok r w1) (h:wpList P ops Q rest (a.put o.dst r) w1):wpList P ops Q (o::rest) a w:=by
 refine wpList_plain hgd fun K hK=>?_
 unfold Oper.wp execOp
 simp only [ho,resolve,invoke,builtin,Sem.run_bind,Sem.run_pure,Result.andThen_ok,List.map_toArray,List.map_cons,List.map_nil,hs,hx,hr]
 exact hK _ _ h
abbrev Fs:=List (Bs×Bs)
def Fs.ins (x:Bs×Bs):Fs→Fs
 | []=>[x]
 | y::r=>if bytesBefore x.1 y.1 then x::y::r else y::Fs.ins x r
def Fs.del (F:Fs) (k:Bs):Fs:=F.filter fun p => !(p.1 == k)
def Fs.put (F:Fs) (k v:Bs):Fs:=Fs.ins (k,v) (F.del k)
def Fs.get (F:Fs) (k:Bs):Option Bs:=(F.find? fun p=>p.1 == k).map (·.2)
def Fs.has (F:Fs) (k:Bs):Bool:=F.any fun p=>p.1 == k
def tZ (p:Bs×Bs):Lit×DataW Unit:=(.string p.1,.lit (.string p.2))
def Fs.data (F:Fs):DataW Unit:=.map (F.map tZ)
theorem Fs.lM (x:Bs×Bs):∀ F:Fs,(Fs.ins x F).map tZ=DataW.insert (tZ x) (F.map tZ)
 | []=>rfl
 | y::r=>by
  simp only [Fs.ins,List.map_cons,DataW.insert]
  have:(tZ x).1.before (tZ y).1=bytesBefore x.1 y.1:=rfl
  rw [this]
  split
  ·rfl
  ·rw [List.map_cons,Fs.lM x r]
theorem Fs.zM (F:Fs) (k:Bs):F.data.del (.string k)=(F.del k).data:=by
 simp only [Fs.data,DataW.del,Fs.del,List.filter_map]
 rfl
theorem Fs.ry (F:Fs) (k v:Bs):F.data.put (.string k) (.lit (.string v))=(F.put k v).data:=by
 simp only [Fs.put,Fs.data,DataW.put,Fs.lM]
 congr 2
 simp only [Fs.del,List.filter_map]
 rfl
theorem Fs.ni (F:Fs) (k:Bs):Maps.has F.data (.string k)=F.has k:=by
 simp only [Fs.data,Maps.has,Fs.has,List.any_map]
 rfl
theorem Fs.mW (F:Fs):Maps.size F.data=F.length:=by simp [Fs.data,Maps.size]
theorem Fs.nU (F:Fs) (k:Bs):F.data.atKey (.string k) (.lit (.string []))=.lit (.string ((F.get k).getD [])):=by
 simp only [Fs.data,DataW.atKey,Fs.get,List.find?_map]
 have e:((fun p:Lit×DataW Unit=>p.1.sameKey (Lit.string k))∘tZ)=fun p=>p.1 == k:=rfl
 rw [e]
 cases F.find? fun p=>p.1 == k <;> rfl
theorem Fs.has_eq (F:Fs) (k:Bs):F.has k=(F.get k).isSome:=by
 unfold Fs.has Fs.get
 induction F with
 | nil=>rfl
 | cons y r ih =>
  by_cases h:(y.1 == k)=true
  ·simp [h]
  ·simp [h,ih]
def MapAt (P:Program) (k e:TypeId) (w:World) (b:Nat) (F:Fs):Prop:=w.ownsMap P k (plainElem P e) b F.length F.data
section
variable {P:Program} {t k e:TypeId} {w w2:World} {b:Nat} {F:Fs}
theorem zN {n:Nat} (h:w.ownsMap P k (plainElem P e) b n F.data):MapAt P k e w b F:=by
 obtain ⟨es,clock,hb,Ft,hs,hD⟩:=h
 refine ⟨es,clock,hb,Ft,?_,hD⟩
 have h1:=congrArg Maps.size hD
 rw [Fs.mW] at h1
 simp only [Maps.size,length_sorted,List.length_map,Array.length_toList] at h1
 omega
theorem MapAt.lt (h:MapAt P k e w b F):b<w.heap.size:=World.ownsMap.lt h
theorem MapAt.ext {G:List Nat} (h:MapAt P k e w b F) (hx:Ext G w w2) (hb:b∉G):MapAt P k e w2 b F:=by
 obtain ⟨es,clock,hh,rest⟩:=h
 exact ⟨es,clock,hx.heap hh hb,rest⟩
theorem MapAt.made (w:World):MapAt P k e (w.alloc (.map #[] 0)) w.heap.size []:=World.ownsMap_made w P k (plainElem P e)
theorem MapAt.sorted (h:MapAt P k e w b F) (hk:P.underlying k=some .string):F.Pairwise fun p q=>bytesBefore p.1 q.1=true:=by
 obtain ⟨es,he,hp,_⟩:=World.ownsMap.canon h (string_keyed hk)
 injection he with he
 rw [← he,List.pairwise_map] at hp
 exact hp
theorem MapAt.look (h:MapAt P k e w b F) (hk:P.underlying k=some .string) (he:P.underlying e=some .string) (ht:P.underlying t=some (.map k e)) (hz:(zeroValue e).run P w=.ok (.string ⟨#[]⟩) w)
  (x:Bs) (hx:x.length≤maxLen):(Instr.lookup t (.map (some b)) (.string ⟨x.toArray⟩) false).run P w=.ok (.string ⟨((F.get x).getD []).toArray⟩) w:=by
 obtain ⟨v,ps,hrun,hv⟩:=World.ownsMap.lookup h (string_keyed hk) ht hz (plainElem_string he (s:=⟨#[]⟩) (Nat.zero_le _)) (keyOf_string_mk hk (s:=⟨x.toArray⟩) hx)
 have hv:=hv.trans (by rw [show (ByteArray.mk #[]).data.toList=[] from rfl,show (ByteArray.mk x.toArray).data.toList=x from rfl,Fs.nU])
 obtain ⟨s,rfl,hs,hw⟩:=plainElem_string_inv he hv
 simp only [Prod.mk.injEq,DataW.lit.injEq,Lit.string.injEq] at hs
 rw [hrun,hs.1]
theorem MapAt.ou (h:MapAt P k e w b F) (hk:P.underlying k=some .string) (he:P.underlying e=some .string) (ht:P.underlying t=some (.map k e)) (hz:(zeroValue e).run P w=.ok (.string ⟨#[]⟩) w)
  (x:Bs) (hx:x.length≤maxLen):(Instr.lookup t (.map (some b)) (.string ⟨x.toArray⟩) true).run P w=.ok (.tuple #[.string ⟨((F.get x).getD []).toArray⟩,.bool (F.has x)]) w:=by
 obtain ⟨v,ps,hrun,hv⟩:=World.ownsMap.look_ok h (string_keyed hk) ht hz (plainElem_string he (s:=⟨#[]⟩) (Nat.zero_le _)) (keyOf_string_mk hk (s:=⟨x.toArray⟩) hx)
 have hv:=hv.trans (by rw [show (ByteArray.mk #[]).data.toList=[] from rfl,show (ByteArray.mk x.toArray).data.toList=x from rfl,Fs.nU])
 obtain ⟨s,rfl,hs,hw⟩:=plainElem_string_inv he hv
 simp only [Prod.mk.injEq,DataW.lit.injEq,Lit.string.injEq] at hs
 rw [show (ByteArray.mk x.toArray).data.toList=x from rfl,Fs.ni] at hrun
 rw [hrun,hs.1]
theorem MapAt.len (h:MapAt P k e w b F) (ht:P.underlying t=some (.map k e)) (ty:TypeId):(Builtin.len_ #[t] ty #[.map (some b)]).run P w=.ok (.int .i64 F.length) w:=by
 rw [World.ownsMap.len h ht ty,Fs.mW]
theorem kP (h:w.mapTurned w2 b):Ext [b] w w2∧w2.heap.size=w.heap.size:=by
 have g:=h.grown
 refine ⟨⟨g.os,g.tape,g.output,g.size,fun i hi hn=>g.block i hi (fun e=>hn (by simpa using e))⟩,?_⟩
 obtain ⟨es,c,es2,c2,hb,rfl⟩:=h
 simp [ChangeMaps.setBlock]
theorem MapAt.update (h:MapAt P k e w b F) (hk:P.underlying k=some .string) (he:P.underlying e=some .string) (ht:P.underlying t=some (.map k e)) (hn:F.length<maxLen)
  (x y:Bs) (hx:x.length≤maxLen) (hy:y.length≤maxLen) :
  ∃ w2,(Instr.mapUpdate t (.map (some b)) (.string ⟨x.toArray⟩) (.string ⟨y.toArray⟩)).run P w=.ok () w2∧MapAt P k e w2 b (F.put x y)∧Ext [b] w w2∧w2.heap.size=w.heap.size:=by
 obtain ⟨w2,hrun,h2,ht2⟩:=World.ownsMap.store h (string_keyed hk) ht hn (keyOf_string_mk hk (s:=⟨x.toArray⟩) hx) (plainElem_string he (s:=⟨y.toArray⟩) hy)
 simp only [Fs.ry] at h2
 exact ⟨w2,hrun,zN h2,kP ht2⟩
theorem MapAt.delete (h:MapAt P k e w b F) (hk:P.underlying k=some .string) (ht:P.underlying t=some (.map k e)) (x:Bs) (hx:x.length≤maxLen) (ty:TypeId) :
  ∃ w2,(Builtin.delete_ #[t,k] ty #[.map (some b),.string ⟨x.toArray⟩]).run P w=.ok (.tuple #[]) w2∧MapAt P k e w2 b (F.del x)∧Ext [b] w w2∧w2.heap.size=w.heap.size:=by
 obtain ⟨w2,hrun,h2,ht2⟩:=World.ownsMap.drop h (string_keyed hk) ht (keyOf_string_mk hk (s:=⟨x.toArray⟩) hx) ty
 simp only [Fs.zM] at h2
 exact ⟨w2,hrun,zN h2,kP ht2⟩
theorem MapAt.clone (h:MapAt P k e w b F):∃ es clock,w.heap[b]? = some (.map es clock)∧MapAt P k e (w.alloc (.map es clock)) w.heap.size F:=by
 obtain ⟨es,clock,hb,rest⟩:=h
 exact ⟨es,clock,hb,es,clock,(MapKept.heap_alloc w _).1,rest⟩
end
end
section
open Go.RowKit
abbrev bv (c:UInt8):Value:=.int .u8 (c.toNat:Int)
section
variable {w w2:World}
theorem heap_setCell_same {b o:Nat} {c:Array Value} {t:TypeId} {fr:Nat×Nat} (h:w.heap[b]? = some (.cells c t fr)) (v:Value):(w.setCell ⟨b,o,none⟩ v).heap[b]? = some (.cells (c.setIfInBounds o v) t fr):=by
 simp only [World.setCell,Array.getElem?_modify,h]
 simp
theorem bM {b o:Nat} {c:Array Value} {t:TypeId} {fr:Nat×Nat} (h:w.heap[b]? = some (.cells c t fr)):w.cell? ⟨b,o,none⟩=c[o]?:=by simp [World.cell?,h]
theorem iR {b o:Nat} {c:Array Value} {t:TypeId} (h:w.heap[b]? = some (.cells c t (0,0))):w.frozen? ⟨b,o,none⟩=false:=by simp [World.frozen?,h]
end
end
section
open Go.RowKit Go.Maps
structure Ev where
 op:Int
 name:Bs
 to:Bs
 data:Bs
def Ev.vals (e:Ev):List Value:=[.int .i64 e.op,.string ⟨e.name.toArray⟩,.string ⟨e.to.toArray⟩,.string ⟨e.data.toArray⟩]
abbrev Ev.agg (e:Ev):Value:=.agg #[.int .i64 e.op,.string ⟨e.name.toArray⟩,.string ⟨e.to.toArray⟩,.string ⟨e.data.toArray⟩]
def Fs.did (F:Fs) (e:Ev):Fs :=
 if e.op=1 then F.put e.name e.data
 else if e.op=2 then F.put e.name ((F.get e.name).getD []++e.data)
 else if e.op=3 then (F.del e.name).put e.to ((F.get e.name).getD [])
 else if e.op=4 then F.del e.name
 else F
theorem o9 (w:World):(zeroValue 9).run Tryz.prog w=.ok (.string ⟨#[]⟩) w:=by kernel_rfl
abbrev rz (w:World) (b:Nat) (F:Fs):Prop:=MapAt Tryz.prog 9 9 w b F
theorem N7 (m:Nat) (F:Fs) (n t d:Bs) (w:World) (hm:rz w m F) (hF:F.length<maxLen) (hn:n.length≤maxLen) (hd:d.length≤maxLen) :
  Calls Tryz.prog 52 #[.map (some m),(Ev.mk 1 n t d).agg] w fun e w2=>e=.returned (.tuple #[])∧rz w2 m (F.put n d)∧Ext [m] w w2:=by
 have hm0:=fun o=>hm.ext ((Ext.refl [] w).alloc o) (by simp)
 obtain ⟨w1,hrun,hm1,hx1,hs1⟩:=(hm0 (.cells #[.int .i64 1,.string ⟨n.toArray⟩,.string ⟨t.toArray⟩,.string ⟨d.toArray⟩] 117)).update (t:=93) Tryz.underlying9 Tryz.underlying9 Tryz.underlying93 hF n d hn hd
 have H1:=Lib.hid hm1
 have H2:=Lib.hid (((Ext.refl [m] w).alloc _).trans hx1 (by simp))
 clear hm hF hn hd hm0 hm1 hx1 hs1
 go_enter Tryz.func52,Tryz.ntmps52
 go_wp2
 go_end0
 exact ⟨rfl,H1.out,H2.out⟩
theorem UU (m:Nat) (F:Fs) (n t d:Bs) (w:World) (hm:rz w m F) (hF:F.length<maxLen) (hn:n.length≤maxLen) (hd:((F.get n).getD []).length+d.length≤maxLen) :
  Calls Tryz.prog 52 #[.map (some m),(Ev.mk 2 n t d).agg] w fun e w2=>e=.returned (.tuple #[])∧rz w2 m (F.put n ((F.get n).getD []++d))∧Ext [m] w w2:=by
 have hm0:=fun o=>hm.ext ((Ext.refl [] w).alloc o) (by simp)
 have hl:=(hm0 (.cells #[.int .i64 2,.string ⟨n.toArray⟩,.string ⟨t.toArray⟩,.string ⟨d.toArray⟩] 117)).look (t:=93) Tryz.underlying9 Tryz.underlying9 Tryz.underlying93 (o9 _) n hn
 have hd':((F.get n).getD []++d).length≤maxLen:=by simpa using hd
 obtain ⟨w1,hrun,hm1,hx1,hs1⟩:=(hm0 (.cells #[.int .i64 2,.string ⟨n.toArray⟩,.string ⟨t.toArray⟩,.string ⟨d.toArray⟩] 117)).update (t:=93) Tryz.underlying9 Tryz.underlying9 Tryz.underlying93 hF n ((F.get n).getD []++d) hn hd'
 have H1:=Lib.hid hm1
 have H2:=Lib.hid (((Ext.refl [m] w).alloc _).trans hx1 (by simp))
 have hap:=ByteArray.mk_append_mk ((F.get n).getD []) d
 have hadd:=fun w=>run_string_add_sum (P:=Tryz.prog) w ⟨((F.get n).getD []).toArray⟩ ⟨d.toArray⟩ hd
 rw [hap] at hadd
 clear hm hF hn hd hd' hm0 hm1 hx1 hs1 hap
 generalize (F.get n).getD []=old at *
 go_enter Tryz.func52,Tryz.ntmps52
 go_wp2
 go_end0
 exact ⟨rfl,H1.out,H2.out⟩
theorem LA (m:Nat) (F:Fs) (n t d:Bs) (w:World) (hm:rz w m F) (hF:F.length<maxLen) (hn:n.length≤maxLen) (ht:t.length≤maxLen) (ho:((F.get n).getD []).length≤maxLen) :
  Calls Tryz.prog 52 #[.map (some m),(Ev.mk 3 n t d).agg] w fun e w2=>e=.returned (.tuple #[])∧rz w2 m ((F.del n).put t ((F.get n).getD []))∧Ext [m] w w2:=by
 have hm0:=hm.ext ((Ext.refl [] w).alloc (.cells #[.int .i64 3,.string ⟨n.toArray⟩,.string ⟨t.toArray⟩,.string ⟨d.toArray⟩] 117)) (by simp)
 have hl:=hm0.look (t:=93) Tryz.underlying9 Tryz.underlying9 Tryz.underlying93 (o9 _) n hn
 obtain ⟨w1,Xv,hm1,hx1,hs1⟩:=hm0.delete (t:=93) Tryz.underlying9 Tryz.underlying93 n hn 0
 have hlt:=hm.lt
 have hcell:∀ j v,(w.alloc (.cells #[.int .i64 3,.string ⟨n.toArray⟩,.string ⟨t.toArray⟩,.string ⟨d.toArray⟩] 117)).cell? ⟨w.heap.size,j,none⟩=some v→w1.cell? ⟨w.heap.size,j,none⟩=some v:=fun j v h=>hx1.cell h (by simp;omega)
 have hc2:=hcell 2 (.string ⟨t.toArray⟩) (by simp)
 obtain ⟨w2,abR,hm2,hx2,hs2⟩:=hm1.update (t:=93) Tryz.underlying9 Tryz.underlying9 Tryz.underlying93 (by have:=List.length_filter_le (fun p:Bs×Bs => !(p.1 == n)) F;unfold Fs.del;omega) t ((F.get n).getD []) ht ho
 have H1:=Lib.hid hm2
 have H2:=Lib.hid ((((Ext.refl [m] w).alloc _).trans hx1 (by simp)).trans hx2 (by simp))
 clear hm hF hn ht ho hm0 hm1 hx1 hs1 hm2 hx2 hs2 hcell hlt
 generalize (F.get n).getD []=old at *
 go_enter Tryz.func52,Tryz.ntmps52
 go_wp2
 go_end0
 exact ⟨rfl,H1.out,H2.out⟩
theorem LB (m:Nat) (F:Fs) (n t d:Bs) (w:World) (hm:rz w m F) (hn:n.length≤maxLen) :
  Calls Tryz.prog 52 #[.map (some m),(Ev.mk 4 n t d).agg] w fun e w2=>e=.returned (.tuple #[])∧rz w2 m (F.del n)∧Ext [m] w w2:=by
 have hm0:=hm.ext ((Ext.refl [] w).alloc (.cells #[.int .i64 4,.string ⟨n.toArray⟩,.string ⟨t.toArray⟩,.string ⟨d.toArray⟩] 117)) (by simp)
 obtain ⟨w1,Xv,hm1,hx1,hs1⟩:=hm0.delete (t:=93) Tryz.underlying9 Tryz.underlying93 n hn 0
 have H1:=Lib.hid hm1
 have H2:=Lib.hid (((Ext.refl [m] w).alloc _).trans hx1 (by simp))
 clear hm hn hm0 hm1 hx1 hs1
 go_enter Tryz.func52,Tryz.ntmps52
 go_wp2
 go_end0
 exact ⟨rfl,H1.out,H2.out⟩
structure Ev.Fit (e:Ev) (F:Fs):Prop where
 op:e.op=1∨e.op=2∨e.op=3∨e.op=4
 name:e.name.length≤maxLen
 to:e.to.length≤maxLen
 sum:((F.get e.name).getD []).length+e.data.length≤maxLen
theorem UW (m:Nat) (F:Fs) (e:Ev) (w:World) (hm:rz w m F) (hF:F.length<maxLen) (he:e.Fit F) :
  Calls Tryz.prog 52 #[.map (some m),e.agg] w fun r w2=>r=.returned (.tuple #[])∧rz w2 m (F.did e)∧Ext [m] w w2:=by
 obtain ⟨op,n,t,d⟩:=e
 obtain ⟨hop,hn,ht,hs⟩:=he
 dsimp only at hop hn ht hs
 unfold Fs.did
 rcases hop with rfl | rfl | rfl | rfl
 ·exact N7 m F n t d w hm hF hn (by omega)
 ·exact UU m F n t d w hm hF hn hs
 ·exact LA m F n t d w hm hF hn ht (by omega)
 ·exact LB m F n t d w hm hn
end
section
open Go.RowKit Go.Maps
structure Dk where
 now:Fs
 sure:Fs
 pend:List Ev
 trace:List Ev
 bL:Int
 eB:Int
 dead:Bool
def uC (l:List Ev):List Value:=l.flatMap Ev.vals
theorem BL (l m:List Ev):uC (l++m)=uC l++uC m:=by simp [uC]
abbrev Ua (w:World) (v:Value) (l:List Ev):Prop:=w.ownsRow 0 117 4 v l.length (uC l)
def bf (p mn ms:Nat) (pv tv:Value):List Nat:=[p,mn,ms]++pv.ownBlock.toList++tv.ownBlock.toList
def kQ (mn ms:Nat) (pv tv:Value) (q f:Int) (d:Bool):Array Value:=#[.map (some mn),.map (some ms),pv,tv,.int .i64 q,.int .i64 f,.bool d]
structure cZ (w:World) (p mn ms:Nat) (pv tv:Value) (D:Dk):Prop where
 box:w.heap[p]? = some (.cells (kQ mn ms pv tv D.bL D.eB D.dead) 95 (0,0))
 now:rz w mn D.now
 sure:rz w ms D.sure
 pend:Ua w pv D.pend
 trace:Ua w tv D.trace
 apart:(bf p mn ms pv tv).Nodup
def mO (w:World) (p:Nat) (F:List Nat) (D:Dk):Prop:=∃ mn ms pv tv,cZ w p mn ms pv tv D∧F=bf p mn ms pv tv
section
variable {w w2:World} {p mn ms:Nat} {pv tv:Value} {D:Dk}
theorem xZ {v:Value} {base e size n:Nat} {xs:List Value} (h:w.ownsRow base e size v n xs):∀ k,v.ownBlock=some k→k<w.heap.size:=fun k hk=>(h.lt k hk).2
theorem cZ.lt (h:cZ w p mn ms pv tv D):∀ x∈bf p mn ms pv tv,x<w.heap.size:=by
 intro x hx
 simp only [bf,List.mem_append,List.mem_cons,List.not_mem_nil,or_false,Option.mem_toList] at hx
 rcases hx with ((rfl | rfl | rfl) | hx) | hx
 ·exact jL h.box
 ·exact h.now.lt
 ·exact h.sure.lt
 ·exact xZ h.pend _ hx
 ·exact xZ h.trace _ hx
theorem cZ.ext {G:List Nat} (h:cZ w p mn ms pv tv D) (hx:Ext G w w2) (hd:∀ x∈bf p mn ms pv tv,x∉G):cZ w2 p mn ms pv tv D where
 box:=hx.heap h.box (hd _ (by simp [bf]))
 now:=h.now.ext hx (hd _ (by simp [bf]))
 sure:=h.sure.ext hx (hd _ (by simp [bf]))
 pend:=fF h.pend hx fun k hk=>hd _ (by simp [bf,hk])
 trace:=fF h.trace hx fun k hk=>hd _ (by simp [bf,hk])
 apart:=h.apart
theorem mO.ext {F G:List Nat} (h:mO w p F D) (hx:Ext G w w2) (hd:∀ x∈F,x∉G):mO w2 p F D:=by
 obtain ⟨mn,ms,pv,tv,h,rfl⟩:=h
 exact ⟨mn,ms,pv,tv,h.ext hx hd,rfl⟩
theorem mO.lt {F:List Nat} (h:mO w p F D):∀ x∈F,x<w.heap.size:=by
 obtain ⟨mn,ms,pv,tv,h,rfl⟩:=h
 exact h.lt
theorem cZ.alloc (h:cZ w p mn ms pv tv D) (o:Obj):cZ (w.alloc o) p mn ms pv tv D:=h.ext ((Ext.refl [] w).alloc o) (by simp)
theorem mO.drew {F:List Nat} (h:mO w p F D):mO w.drew p F D:=h.ext (Ext.refl [] w).drew (by simp)
theorem cZ.cells (h:cZ w p mn ms pv tv D):w.cell? ⟨p,0,none⟩=some (.map (some mn))∧w.cell? ⟨p,1,none⟩=some (.map (some ms))∧w.cell? ⟨p,2,none⟩=some pv∧w.cell? ⟨p,3,none⟩=some tv ∧
  w.cell? ⟨p,4,none⟩=some (.int .i64 D.bL)∧w.cell? ⟨p,5,none⟩=some (.int .i64 D.eB)∧w.cell? ⟨p,6,none⟩=some (.bool D.dead):=by
 simp [bM h.box,kQ]
theorem cZ.free (h:cZ w p mn ms pv tv D) (o:Nat):w.frozen? ⟨p,o,none⟩=false:=iR h.box
theorem cZ.N8 (h:cZ w p mn ms pv tv D) (q f:Int) (d:Bool) (o:Nat) (v:Value) (hc:(kQ mn ms pv tv D.bL D.eB D.dead).setIfInBounds o v=kQ mn ms pv tv q f d) :
  cZ (w.setCell ⟨p,o,none⟩ v) p mn ms pv tv { D with bL:=q,eB:=f,dead:=d }:=by
 have ha:=h.apart
 simp only [bf,List.cons_append,List.nil_append,List.nodup_cons,List.mem_cons,List.mem_append,Option.mem_toList,not_or] at ha
 have hx:Ext [p] w (w.setCell ⟨p,o,none⟩ v):=(Ext.refl [p] w).setCell (by simp) v
 refine ⟨by rw [heap_setCell_same h.box,hc],h.now.ext hx (by simp;exact fun e=>ha.1.1 e.symm),h.sure.ext hx (by simp;exact fun e=>ha.1.2.1 e.symm),fF h.pend hx (fun k hk=>?_),fF h.trace hx (fun k hk=>?_),h.apart⟩
 ·simp only [List.mem_singleton];rintro rfl;exact ha.1.2.2.1 hk
 ·simp only [List.mem_singleton];rintro rfl;exact ha.1.2.2.2 hk
end
theorem iB (p:Nat) (F:List Nat) (D:Dk) (x:Bs) (w:World) (h:mO w p F D) (hx:x.length≤maxLen):Calls Tryz.prog 56 #[.pointer (some ⟨p,0,none⟩),.string ⟨x.toArray⟩] w fun e w2=>e=.returned (.bool (D.now.has x))∧w=w2:=by
 obtain ⟨mn,ms,pv,tv,h,rfl⟩:=h
 obtain ⟨h0,h1,h2,h3,h4,h5,h6⟩:=h.cells
 have hl:=h.now.ou (t:=93) Tryz.underlying9 Tryz.underlying9 Tryz.underlying93 (o9 _) x hx
 clear h h1 h2 h3 h4 h5 h6 hx
 go_enter Tryz.func56,Tryz.ntmps56
 go_wp2
 go_ret
 exact ⟨rfl,rfl⟩
end
section
open Go.RowKit Go.Maps
section
variable {P:Program} (w:World)
theorem Dq (d:Nat) (t k e:TypeId) (p:Option Nat) (h:P.underlying t=some (.map k e)):(Op.equalIn (d+1) t (.map p) (.map none)).run P w=.ok p.isNone w:=by
 cases p <;> simp [Op.equalIn,run_underlying h]
theorem ER (t k e:TypeId) (p:Option Nat) (h:P.underlying t=some (.map k e)):(binOp .eql t (.map p) (.map none)).run P w=.ok (.bool p.isNone) w:=by
 simp only [binOp]
 simp [show Op.equal t (.map p) (.map none)=Op.equalIn (9999+1) t (.map p) (.map none) from rfl,Dq w 9999 t k e p h]
theorem Ip (t xT k e:TypeId) (v:Value) (h:P.underlying t=some (.map k e)):(Instr.typeAssert (.iface t v) xT t false).run P w=.ok v w:=by
 simp [Instr.typeAssert,run_underlying h,go_sem,Result.andThen]
end
theorem LC (m:Nat) (F:Fs) (w:World) (hm:rz w m F) :
  Calls Tryz.prog 51 #[.map (some m)] w fun r w2=>r=.returned (.map (some w.heap.size))∧rz w2 w.heap.size F∧Ext [] w w2∧w2.heap.size=w.heap.size+1:=by
 obtain ⟨es,clock,hb,hm1⟩:=hm.clone
 have H1:=Lib.hid hm1
 have hq:=fun w=>ER (P:=Tryz.prog) w 93 _ _ (some m) Tryz.underlying93
 clear hm hm1
 go_enter Tryz.func51,Tryz.ntmps51
 go_wp2
 rw [run_callFunc_extern Tryz.func83 (by kernel_rfl) (by kernel_rfl) (by kernel_rfl) (e:=Extern.MapsClone.clone) (by kernel_rfl),run_maps_clone_sl w 93 hb]
 simp only [Result.andThen]
 rw [Oper.upon_value]
 go_wp2
 rw [Ip _ 93 20 _ _ _ Tryz.underlying93]
 simp only [Result.andThen]
 rw [Oper.upon_value]
 go_wp2
 go_ret
 exact ⟨rfl,H1.out,(Ext.refl [] w).alloc _,by simp⟩
end
end Go.Proofs.YtangbdahnmomlaaGreatDoor
