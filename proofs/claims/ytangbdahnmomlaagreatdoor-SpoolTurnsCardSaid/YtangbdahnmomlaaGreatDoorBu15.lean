/- strings.Builder as a part of memory: WriteString, Len, String (of a fresh one too). Conditions: the lengths fit. chacha: four numbers stirred, -/
import Derived.Test.YtangbdahnmomlaaGreatDoorBu01
import Derived.Test.YtangbdahnmomlaaGreatDoorBu04
import Derived.Test.YtangbdahnmomlaaGreatDoorBu06
import Derived.Test.YtangbdahnmomlaaGreatDoorBu07
import Derived.Test.YtangbdahnmomlaaGreatDoorBu08
import Derived.Test.YtangbdahnmomlaaGreatDoorBu12
set_option linter.unnecessarySimpa false
set_option linter.unusedSimpArgs false
set_option linter.unusedVariables false
set_option maxHeartbeats 2000000
set_option maxRecDepth 100000
namespace Go.Proofs.YtangbdahnmomlaaGreatDoor
section
open Go.RowKit Go.Maps
abbrev rq (T b:Nat) (l:Bs):aT where
 holds:=fun F w=>Aj T w b F l
 keeps:=fun h hx hd=>h.ext hx hd
 inside:=fun h=>h.lt
section
variable {w0 w:World} {F0:List Nat} {L:List aT} {T b:Nat} {l s:Bs}
theorem Aj.Vg (w:World) (T:TypeId):Aj T (w.alloc (.cells #[.pointer none,.slice none 0 0] T)) w.heap.size [w.heap.size] [] :=
 ⟨_,_,.inl rfl,heap_alloc_new _ _,World.ownsRowF_nil _ _ _ _,by simp [Value.ownBlock],by simp [Value.ownBlock]⟩
theorem Sp.vT (S:Sp w0 F0 w L) (T:TypeId):Sp w0 F0 (w.alloc (.cells #[.pointer none,.slice none 0 0] T)) (rq T w.heap.size []::L) :=
 S.gain ((Ext.refl [] w).alloc _) (Aj.Vg w T) (by simp)
theorem jY (s:Bs) (S:Sp w0 F0 w (rq 176 b l::L)) (hl:l.length+s.length≤1000000000000) :
  Calls Tryz.prog 89 #[.pointer (some ⟨b,0,none⟩),.string ⟨s.toArray⟩] w fun e w2=>e=.returned (.tuple #[.int .i64 s.length,.nilIface])∧Sp w0 F0 w2 (rq 176 b (l++s)::L):=by
 obtain ⟨F,h,hk⟩:=S.take
 exact (pU 176 b F l s w Oo h (by omega)).mono fun _ _ ⟨he,F2,h2,m⟩=>⟨he,hk _ _ F2 h2 m⟩
theorem vU (S:Sp w0 F0 w (rq T b l::L)) (h0:l≠[]) :
  Calls Tryz.prog 90 #[.pointer (some ⟨b,0,none⟩)] w fun e w2=>e=.returned (.string ⟨l.toArray⟩)∧Sp w0 F0 w2 L:=by
 obtain ⟨F,h,hk⟩:=S.take
 refine (oD T b F l w h h0).mono fun _ w2 ⟨he,hx⟩=>⟨he,?_⟩
 exact (hk w2 ⟨fun F _=>F=[],fun h _ _=>h,fun h x hx=>by rw [h] at hx;cases hx⟩ [] rfl ⟨hx,by simp⟩).drop
theorem Mm (S:Sp w0 F0 w (ae b #[.pointer none,.slice none 0 0] T::L)) :
  Calls Tryz.prog 90 #[.pointer (some ⟨b,0,none⟩)] w fun e w2=>e=.returned (.string ⟨#[]⟩)∧Sp w0 F0 w2 L:=by
 have HS:=Lib.hid S.drop.drew
 have c1:w.drew.cell? ⟨b,1,none⟩=some (.slice none 0 0):=by rw [S.drew.cell];rfl
 have hSD:∀ ts ty,(Builtin.unsafeSliceData_ ts ty #[.slice none 0 0]).run Tryz.prog w.drew=.ok (.pointer none) w.drew:=fun ts ty=>Lib.run_unsafeSliceData_nil _ _ _ _ _
 have hUS:(Builtin.unsafeString_ #[215,3] 9 #[.pointer none,.int .i64 0]).run Tryz.prog w.drew=.ok (.string ⟨#[]⟩) w.drew:=Lib.run_unsafeString_none _ _ _ _ _
 clear S
 go_enter Tryz.func90,Tryz.ntmps90
 go_wp2
 go_region
 all_goals (go_wp2;go_ret;exact ⟨rfl,HS.out⟩)
theorem Vh (S:Sp w0 F0 w (rq T b l::L)) :
  Calls Tryz.prog 192 #[.pointer (some ⟨b,0,none⟩)] w fun e w2=>e=.returned (.int .i64 l.length)∧Sp w0 F0 w2 (rq T b l::L):=by
 have HS:=Lib.hid S
 obtain ⟨F,⟨p,v,hp,hb,hr,hn,rfl⟩,hk⟩:=S.take
 have c1:w.cell? ⟨b,1,none⟩=some v:=by rw [bM hb];rfl
 obtain ⟨a,cap,rfl⟩:∃ a cap,v=.slice a l.length cap:=by
  rcases hr.2 with ⟨rfl,hz⟩ | ⟨g,cap,cur,fz,rfl,r⟩
  ·exact ⟨none,0,by rw [hz]⟩
  ·exact ⟨_,_,rfl⟩
 clear hp hb hr hn hk S
 go_enter Tryz.func192,Tryz.ntmps192
 go_wp2
 go_ret
 exact ⟨rfl,HS.out⟩
theorem Vi (S:Sp w0 F0 w (ae b #[.pointer none,.slice none 0 0] T::L)) :
  Calls Tryz.prog 192 #[.pointer (some ⟨b,0,none⟩)] w fun e w2=>e=.returned (.int .i64 0)∧Sp w0 F0 w2 (ae b #[.pointer none,.slice none 0 0] T::L):=by
 have HS:=Lib.hid S
 have c1:w.cell? ⟨b,1,none⟩=some (.slice none 0 0):=by rw [S.cell];rfl
 clear S
 go_enter Tryz.func192,Tryz.ntmps192
 go_wp2
 go_ret
 exact ⟨rfl,HS.out⟩
end
end
section
open Go.RowKit
section
variable {w0 w:World} {F0:List Nat} {L:List aT} {v:Value}
def add32 (a b:Nat):Nat:=(a+b) % 4294967296
theorem fM (a b:Nat):add32 a b<4294967296:=Nat.mod_lt _ (by decide)
theorem jV (a b:Nat):((a:Int)+(b:Int)) % 4294967296=(add32 a b:Int):=by
 unfold add32
 omega
theorem jI (a b:Nat) (ha:a<4294967296) (hb:b<4294967296):a ^^^ b<4294967296:=Nat.xor_lt_two_pow (n:=32) ha hb
theorem xG (a b:Nat) (ha:a<4294967296) (hb:b<4294967296):bits .xor .u32 (a:Int) (b:Int)=((a ^^^ b:Nat):Int):=by
 have hx:a ^^^ b<2 ^ 32:=Nat.xor_lt_two_pow ha hb
 unfold bits
 simp [IntKind.wrap,IntKind.signed,IntKind.bits]
 have e:(BitVec.ofNat 32 a ^^^ BitVec.ofNat 32 b).toNat=a ^^^ b:=by
  rw [BitVec.toNat_xor,BitVec.toNat_ofNat,BitVec.toNat_ofNat,Nat.mod_eq_of_lt ha,Nat.mod_eq_of_lt hb]
 have e2:((BitVec.ofNat 32 a ^^^ BitVec.ofNat 32 b).toNat:Int)=((a ^^^ b:Nat):Int):=by rw [e]
 show ((BitVec.ofNat 32 a ^^^ BitVec.ofNat 32 b).toNat:Int) % 4294967296=((a ^^^ b:Nat):Int)
 rw [e2]
 omega
structure W4 where
 a:Nat
 b:Nat
 c:Nat
 d:Nat
def W4.fit (q:W4):Prop:=q.a<4294967296∧q.b<4294967296∧q.c<4294967296∧q.d<4294967296
def W4.half (n m:Nat) (q:W4):W4 :=
 let a:=add32 q.a q.b
 let d:=iG (q.d ^^^ a) n
 let c:=add32 q.c d
 ⟨a,iG (q.b ^^^ c) m,c,d⟩
theorem W4.rQ (n m:Nat) (q:W4) (h:q.fit):(q.half n m).fit :=
 ⟨fM _ _,pY _ _ (jI _ _ h.2.1 (fM _ _)),fM _ _,pY _ _ (jI _ _ h.2.2.2 (fM _ _))⟩
def W4.upto (q:W4):Nat→W4
 | 0=>q
 | 1=>q.half 16 12
 | _=>(q.half 16 12).half 8 7
theorem W4.oW (q:W4) (h:q.fit):∀ k,(q.upto k).fit
 | 0=>h
 | 1=>rQ _ _ _ h
 | _+2=>rQ _ _ _ (rQ _ _ _ h)
theorem Cy (n m:Nat) (q:W4) (h:q.fit):((q.a:Int)+(q.b:Int)) % 4294967296=((q.half n m).a:Int)∧bits .xor .u32 (q.d:Int) ((q.half n m).a:Int)=((q.d ^^^ (q.half n m).a:Nat):Int)∧((q.c:Int)+((q.half n m).d:Int)) % 4294967296=((q.half n m).c:Int)∧bits .xor .u32 (q.b:Int) ((q.half n m).c:Int)=((q.b ^^^ (q.half n m).c:Nat):Int) :=
 ⟨jV _ _,xG _ _ h.2.2.2 (fM _ _),jV _ _,xG _ _ h.2.1 (fM _ _)⟩
end
end
section
open Go.RowKit
section
variable {w0 w:World} {F0:List Nat} {L:List aT} {v:Value}
theorem Sp.aak {b:Nat} {T:TypeId} {a0 a1 a2 a3:Value} (S:Sp w0 F0 w (ae b #[a0,a1,a2,a3] T::L)) (u0 u1 u2 u3:Value):Sp w0 F0 ((((w.setCell ⟨b,0,none⟩ u0).setCell ⟨b,1,none⟩ u1).setCell ⟨b,2,none⟩ u2).setCell ⟨b,3,none⟩ u3) (ae b #[u0,u1,u2,u3] T::L):=by
 have h:=(((S.set (o:=0) u0).set (o:=1) u1).set (o:=2) u2).set (o:=3) u3
 simp only [List.setIfInBounds_toArray,List.set_cons_zero,List.set_cons_succ] at h
 exact h
theorem Vj (q:W4) (hq:q.fit) (S:Sp w0 F0 w L):Calls Tryz.prog 254 #[.agg #[.int .u32 q.a,.int .u32 q.b,.int .u32 q.c,.int .u32 q.d]] w fun e w2=>e=.returned (.agg #[.int .u32 (q.upto 2).a,.int .u32 (q.upto 2).b,.int .u32 (q.upto 2).c,.int .u32 (q.upto 2).d])∧Sp w0 F0 w2 L:=by
 have bV:=Lib.hid (((S.new (.cells #[.int .u32 q.a,.int .u32 q.b,.int .u32 q.c,.int .u32 q.d] 322)).box #[.int .u32 0,.int .u32 0,.int .u32 0,.int .u32 0] 322).drew)
 have hsz:∀ o:Obj,(w.alloc o).heap.size=w.heap.size+1:=fun o=>Array.size_push _
 rw [hsz] at bV
 clear hsz
 clear S
 go_enter Tryz.func254,Tryz.ntmps254
 go_wp2_with fail
 go_region
 go_wp2_with fail
 generalize (World.alloc _ _).drew=w1 at *
 generalize w.heap.size+1=g at *
 generalize w.heap.size=g0 at *
 go_loopw [3,4,5,6,20] (fun a b c d i wr=>∃ k:Nat,a=.int .u32 (q.upto k).a∧b=.int .u32 (q.upto k).b∧c=.int .u32 (q.upto k).c∧d=.int .u32 (q.upto k).d∧i=.int .i64 k∧k≤2∧Sp w0 F0 wr (ae g #[.int .u32 0,.int .u32 0,.int .u32 0,.int .u32 0] 322::L)) (fun _ _ _ _ i _=>2 - (intOf i).toNat)
 case atStart=>exact ⟨0,rfl,rfl,rfl,rfl,rfl,by decide,bV.out⟩
 case round =>
  obtain ⟨k,rfl,rfl,rfl,rfl,rfl,hk,S⟩:=hrel
  have HS:=Lib.hid S
  clear S
  by_cases hlt:k<2
  ·rcases (by omega:k=0∨k=1) with rfl | rfl
   ·obtain ⟨e1,e2,e3,e4⟩:=Cy 16 12 (q.upto 0) (q.oW hq 0)
    have hf:=q.oW hq 0
    have hg:=(q.upto 0).rQ 16 12 hf
    have xq:=Lib.hid (fun w'=>vO ((q.upto 0).d ^^^ ((q.upto 0).half 16 12).a) 16 (jI _ _ hf.2.2.2 hg.1) (by decide) w')
    have nQ:=Lib.hid (fun w'=>vO ((q.upto 0).b ^^^ ((q.upto 0).half 16 12).c) 12 (jI _ _ hf.2.1 hg.2.2.1) (by decide) w')
    clear hf hg
    have HD:Hid (iG ((q.upto 0).d ^^^ ((q.upto 0).half 16 12).a) 16=((q.upto 0).half 16 12).d):=Lib.hid rfl
    have HB:Hid (iG ((q.upto 0).b ^^^ ((q.upto 0).half 16 12).c) 12=((q.upto 0).half 16 12).b):=Lib.hid rfl
    have HU:Hid (q.upto (0+1)=(q.upto 0).half 16 12):=Lib.hid rfl
    have i0:∀ w',(Instr.index 334 (.agg #[.int .i64 16,.int .i64 12,.int .i64 8,.int .i64 7]) (.int .i64 0)).run Tryz.prog w'=.ok (.agg #[.int .i64 16,.int .i64 12]) w':=fun _=>by kernel_rfl
    have HN:=Lib.hid (HS.out.new (.cells #[.int .i64 16,.int .i64 12] 333))
    go_wp2_with fail
    refine (xq.out _).mono ?_
    rintro e w2 ⟨rfl,rfl⟩
    rw [HD.out]
    go_wp2_with fail
    refine (nQ.out _).mono ?_
    rintro e w2 ⟨rfl,rfl⟩
    rw [HB.out]
    go_wp2_with fail
    refine ⟨⟨0+1,?_,?_,?_,?_,?_,by decide,HN.out⟩,by simp [intOf]⟩
    all_goals first
     | rfl
     | (rw [HU.out];first | rfl | rw [e1] | rw [e3])
   ·obtain ⟨e1,e2,e3,e4⟩:=Cy 8 7 (q.upto 1) (q.oW hq 1)
    have hf:=q.oW hq 1
    have hg:=(q.upto 1).rQ 8 7 hf
    have xq:=Lib.hid (fun w'=>vO ((q.upto 1).d ^^^ ((q.upto 1).half 8 7).a) 8 (jI _ _ hf.2.2.2 hg.1) (by decide) w')
    have nQ:=Lib.hid (fun w'=>vO ((q.upto 1).b ^^^ ((q.upto 1).half 8 7).c) 7 (jI _ _ hf.2.1 hg.2.2.1) (by decide) w')
    clear hf hg
    have HD:Hid (iG ((q.upto 1).d ^^^ ((q.upto 1).half 8 7).a) 8=((q.upto 1).half 8 7).d):=Lib.hid rfl
    have HB:Hid (iG ((q.upto 1).b ^^^ ((q.upto 1).half 8 7).c) 7=((q.upto 1).half 8 7).b):=Lib.hid rfl
    have HU:Hid (q.upto (1+1)=(q.upto 1).half 8 7):=Lib.hid rfl
    have i0:∀ w',(Instr.index 334 (.agg #[.int .i64 16,.int .i64 12,.int .i64 8,.int .i64 7]) (.int .i64 1)).run Tryz.prog w'=.ok (.agg #[.int .i64 8,.int .i64 7]) w':=fun _=>by kernel_rfl
    have HN:=Lib.hid (HS.out.new (.cells #[.int .i64 8,.int .i64 7] 333))
    go_wp2_with fail
    refine (xq.out _).mono ?_
    rintro e w2 ⟨rfl,rfl⟩
    rw [HD.out]
    go_wp2_with fail
    refine (nQ.out _).mono ?_
    rintro e w2 ⟨rfl,rfl⟩
    rw [HB.out]
    go_wp2_with fail
    refine ⟨⟨1+1,?_,?_,?_,?_,?_,by decide,HN.out⟩,by simp [intOf]⟩
    all_goals first
     | rfl
     | (rw [HU.out];first | rfl | rw [e1] | rw [e3])
  ·obtain rfl:k=2:=by omega
   have cq:=HS.out.cell
   have fq:=HS.out.free
   have HP:=Lib.hid (HS.out.aak (.int .u32 (q.upto 2).a) (.int .u32 (q.upto 2).b) (.int .u32 (q.upto 2).c) (.int .u32 (q.upto 2).d))
   clear HS
   go_wp2
   refine bodyPost_ret (results_cell_row rfl _ _ g 322 #[.int .u32 (q.upto 2).a,.int .u32 (q.upto 2).b,.int .u32 (q.upto 2).c,.int .u32 (q.upto 2).d] (0,0) _ rfl HP.out.boxed Tryz.underlying322 rfl (by kernel_rfl)) rfl ?_
   exact ⟨rfl,HP.out.drop⟩
end
end
section
open Go.RowKit
def vV (l:List Nat):Prop:=∀ x∈l,x<4294967296
theorem vV.getD {l:List Nat} (h:vV l) (i:Nat):l.getD i 0<4294967296:=by
 rw [List.getD_eq_getElem?_getD]
 cases e:l[i]? with
 | none=>simp
 | some x=>exact h x (List.mem_of_getElem? e)
theorem vV.set {l:List Nat} (h:vV l) (i x:Nat) (hx:x<4294967296):vV (l.set i x):=fun y hy=>by
 rcases List.mem_or_eq_of_mem_set hy with hy | rfl
 ·exact h y hy
 ·exact hx
def aG (l:List Nat):Array Value:=(l.map fun n:Nat=>Value.int .u32 n).toArray
theorem Mo (l:List Nat) (i:Nat) (h:i<l.length):(aG l)[i]? = some (.int .u32 (l.getD i 0)):=by
 simp [aG,List.getD_eq_getElem?_getD,List.getElem?_eq_getElem h]
theorem Mq (l:List Nat) (i x:Nat):(aG l).setIfInBounds i (.int .u32 x)=aG (l.set i x):=by
 simp [aG,List.map_set]
def q4 (l p:List Nat):W4:=⟨l.getD (p.getD 0 0) 0,l.getD (p.getD 1 0) 0,l.getD (p.getD 2 0) 0,l.getD (p.getD 3 0) 0⟩
theorem O0 {l:List Nat} (h:vV l) (p:List Nat):(q4 l p).fit:=⟨h.getD _,h.getD _,h.getD _,h.getD _⟩
def W4.get (q:W4):Nat→Nat
 | 0=>q.a
 | 1=>q.b
 | 2=>q.c
 | _=>q.d
theorem W4.RQ {q:W4} (h:q.fit):∀ k,q.get k<4294967296
 | 0=>h.1
 | 1=>h.2.1
 | 2=>h.2.2.1
 | _+3=>h.2.2.2
def oG (l p:List Nat) (q:W4):Nat→List Nat
 | 0=>l
 | k+1=>(oG l p q k).set (p.getD k 0) (q.get k)
theorem oH (l p:List Nat) (q:W4):∀ k,(oG l p q k).length=l.length
 | 0=>rfl
 | k+1=>by rw [oG,List.length_set,oH l p q k]
theorem AO {l:List Nat} (h:vV l) (p:List Nat) {q:W4} (hq:q.fit):∀ k,vV (oG l p q k)
 | 0=>h
 | k+1=>(AO h p hq k).set _ _ (q.RQ hq k)
def rR:List (List Nat):=[[0,4,8,12],[1,5,9,13],[2,6,10,14],[3,7,11,15],[0,5,10,15],[1,6,11,12],[2,7,8,13],[3,4,9,14]]
def mH (l:List Nat):Nat→List Nat
 | 0=>l
 | k+1=>oG (mH l k) (rR.getD k []) ((q4 (mH l k) (rR.getD k [])).upto 2) 4
theorem oI (l:List Nat):∀ k,(mH l k).length=l.length
 | 0=>rfl
 | k+1=>by rw [mH,oH,oI l k]
theorem qb {l:List Nat} (h:vV l):∀ k,vV (mH l k)
 | 0=>h
 | k+1=>AO (qb h k) _ ((q4 _ _).oW (O0 (qb h k) _) 2) 4
def roundUp (l:List Nat):Nat→List Nat
 | 0=>l
 | k+1=>mH (roundUp l k) 8
theorem rT (l:List Nat):∀ k,(roundUp l k).length=l.length
 | 0=>rfl
 | k+1=>by rw [roundUp,oI,rT l k]
theorem yF {l:List Nat} (h:vV l):∀ k,vV (roundUp l k)
 | 0=>h
 | k+1=>qb (yF h k) 8
def lJ (t:Bs):Nat→List Nat
 | 0=>List.replicate 16 0
 | k+1=>(lJ t k).set k (ky ((t.drop (4*k)).take 4) 4 % 4294967296)
theorem nE (t:Bs):∀ k,(lJ t k).length=16
 | 0=>rfl
 | k+1=>by rw [lJ,List.length_set,nE t k]
theorem yG (t:Bs):∀ k,vV (lJ t k)
 | 0=>fun x hx=>by rw [List.eq_of_mem_replicate hx];decide
 | k+1=>(yG t k).set _ _ (Nat.mod_lt _ (by decide))
def mI:Bs:=[101,120,112,97,110,100,32,51,50,45,98,121,116,101,32,107]
def xH (key:Bs) (n:Nat) (aB:Bs):Bs:=mI++key++dF n 4++aB
def oJ (key:Bs) (n:Nat) (aB:Bs):List Nat:=lJ (xH key n aB) 16
def uk (s f:List Nat):Nat→Bs
 | 0=>[]
 | k+1=>uk s f k++dF (add32 (s.getD k 0) (f.getD k 0)) 4
theorem qc (s f:List Nat):∀ k,(uk s f k).length=4*k
 | 0=>rfl
 | k+1=>by rw [uk,List.length_append,qc s f k,dS];omega
def Mr (key:Bs) (n:Nat) (aB:Bs):Bs:=uk (roundUp (oJ key n aB) 10) (oJ key n aB) 16
theorem FW (key:Bs) (n:Nat) (aB:Bs):(Mr key n aB).length=64:=by unfold Mr;rw [qc]
end
section
open Go.RowKit
section
variable {w0 w:World} {F0:List Nat} {L:List aT} {v:Value}
abbrev dG:Array Value:=#[.int .i64 0,.int .i64 4,.int .i64 8,.int .i64 12,.int .i64 1,.int .i64 5,.int .i64 9,.int .i64 13,.int .i64 2,.int .i64 6,.int .i64 10,.int .i64 14,.int .i64 3,.int .i64 7,.int .i64 11,.int .i64 15,.int .i64 0,.int .i64 5,.int .i64 10,.int .i64 15,.int .i64 1,.int .i64 6,.int .i64 11,.int .i64 12,.int .i64 2,.int .i64 7,.int .i64 8,.int .i64 13,.int .i64 3,.int .i64 4,.int .i64 9,.int .i64 14]
def qd:Array Value:=(List.replicate 32 (Value.int .i64 0)).toArray
theorem Ms (S:Sp w0 F0 w L):Calls Tryz.prog 253 #[] w fun e w2=>e=.returned (.agg dG)∧Sp w0 F0 w2 L:=by
 have bV:=Lib.hid (S.box qd 320)
 clear S
 go_enter Tryz.func253,Tryz.ntmps253
 go_upto_region 1 with (fail)
 have bX:Hid (Sp w0 F0 (w.alloc (.cells #[.int .i64 0,.int .i64 0,.int .i64 0,.int .i64 0,.int .i64 0,.int .i64 0,.int .i64 0,.int .i64 0,.int .i64 0,.int .i64 0,.int .i64 0,.int .i64 0,.int .i64 0,.int .i64 0,.int .i64 0,.int .i64 0,.int .i64 0,.int .i64 0,.int .i64 0,.int .i64 0,.int .i64 0,.int .i64 0,.int .i64 0,.int .i64 0,.int .i64 0,.int .i64 0,.int .i64 0,.int .i64 0,.int .i64 0,.int .i64 0,.int .i64 0,.int .i64 0] 320)) _):=bV
 clear bV
 generalize (w.alloc (.cells #[.int .i64 0,.int .i64 0,.int .i64 0,.int .i64 0,.int .i64 0,.int .i64 0,.int .i64 0,.int .i64 0,.int .i64 0,.int .i64 0,.int .i64 0,.int .i64 0,.int .i64 0,.int .i64 0,.int .i64 0,.int .i64 0,.int .i64 0,.int .i64 0,.int .i64 0,.int .i64 0,.int .i64 0,.int .i64 0,.int .i64 0,.int .i64 0,.int .i64 0,.int .i64 0,.int .i64 0,.int .i64 0,.int .i64 0,.int .i64 0,.int .i64 0,.int .i64 0] 320))=w1 at *
 generalize w.heap.size=g at *
 have b1:=bX.out.boxed
 have HP:=Lib.hid (bX.out.setRow dG)
 clear bX
 go_wp2_with (first
  | (refine eX rfl 258 #[(0,.const (.int .i64 0)),(1,.const (.int .i64 4)),(2,.const (.int .i64 8)),(3,.const (.int .i64 12))] rfl #[.int .i64 0,.int .i64 4,.int .i64 8,.int .i64 12] (by kernel_rfl) ?_;simp only [Act.put,List.setIfInBounds_toArray,List.set_cons_zero,List.set_cons_succ])
  | (refine eX rfl 258 #[(0,.const (.int .i64 1)),(1,.const (.int .i64 5)),(2,.const (.int .i64 9)),(3,.const (.int .i64 13))] rfl #[.int .i64 1,.int .i64 5,.int .i64 9,.int .i64 13] (by kernel_rfl) ?_;simp only [Act.put,List.setIfInBounds_toArray,List.set_cons_zero,List.set_cons_succ])
  | (refine eX rfl 258 #[(0,.const (.int .i64 2)),(1,.const (.int .i64 6)),(2,.const (.int .i64 10)),(3,.const (.int .i64 14))] rfl #[.int .i64 2,.int .i64 6,.int .i64 10,.int .i64 14] (by kernel_rfl) ?_;simp only [Act.put,List.setIfInBounds_toArray,List.set_cons_zero,List.set_cons_succ])
  | (refine eX rfl 258 #[(0,.const (.int .i64 3)),(1,.const (.int .i64 7)),(2,.const (.int .i64 11)),(3,.const (.int .i64 15))] rfl #[.int .i64 3,.int .i64 7,.int .i64 11,.int .i64 15] (by kernel_rfl) ?_;simp only [Act.put,List.setIfInBounds_toArray,List.set_cons_zero,List.set_cons_succ])
  | (refine eX rfl 258 #[(0,.const (.int .i64 0)),(1,.const (.int .i64 5)),(2,.const (.int .i64 10)),(3,.const (.int .i64 15))] rfl #[.int .i64 0,.int .i64 5,.int .i64 10,.int .i64 15] (by kernel_rfl) ?_;simp only [Act.put,List.setIfInBounds_toArray,List.set_cons_zero,List.set_cons_succ])
  | (refine eX rfl 258 #[(0,.const (.int .i64 1)),(1,.const (.int .i64 6)),(2,.const (.int .i64 11)),(3,.const (.int .i64 12))] rfl #[.int .i64 1,.int .i64 6,.int .i64 11,.int .i64 12] (by kernel_rfl) ?_;simp only [Act.put,List.setIfInBounds_toArray,List.set_cons_zero,List.set_cons_succ])
  | (refine eX rfl 258 #[(0,.const (.int .i64 2)),(1,.const (.int .i64 7)),(2,.const (.int .i64 8)),(3,.const (.int .i64 13))] rfl #[.int .i64 2,.int .i64 7,.int .i64 8,.int .i64 13] (by kernel_rfl) ?_;simp only [Act.put,List.setIfInBounds_toArray,List.set_cons_zero,List.set_cons_succ])
  | (refine eX rfl 258 #[(0,.const (.int .i64 3)),(1,.const (.int .i64 4)),(2,.const (.int .i64 9)),(3,.const (.int .i64 14))] rfl #[.int .i64 3,.int .i64 4,.int .i64 9,.int .i64 14] (by kernel_rfl) ?_;simp only [Act.put,List.setIfInBounds_toArray,List.set_cons_zero,List.set_cons_succ])
  | refine eX rfl 320 _ rfl dG (by kernel_rfl) ?_
  | refine wpList_store_row rfl 320 _ _ rfl g dG rfl rfl 320 _ b1 (by kernel_rfl) (by kernel_rfl) (by kernel_rfl) ?_)
 refine bodyPost_ret (results_cell_row rfl _ _ g 320 dG (0,0) _ rfl HP.out.boxed Tryz.underlying320 rfl (by kernel_rfl)) rfl ?_
 exact ⟨rfl,HP.out.drop⟩
theorem Um (key aB:Bs) (hk:key.length=32) (hn:aB.length=12) (w:World):Calls Tryz.prog 242 #[.string ⟨key.toArray⟩,.string ⟨aB.toArray⟩] w fun e w2=>e=.returned (.bool true)∧w2=w:=by
 have hk':(key.length:Int)=32:=by omega
 have hn':(aB.length:Int)=12:=by omega
 go_enter Tryz.func242,Tryz.ntmps242
 go_wp2_with fail
 go_ret
 exact ⟨rfl,rfl⟩
theorem Sp.uP {b:Nat} {l:List Nat} {T:TypeId} (S:Sp w0 F0 w (ae b (aG l) T::L)) {i:Nat} (h:i<l.length):w.cell? ⟨b,i,none⟩=some (.int .u32 (l.getD i 0)):=by
 rw [S.cell,Mo l i h]
theorem Sp.FX {b:Nat} {l:List Nat} {T:TypeId} (S:Sp w0 F0 w (ae b (aG l) T::L)) (i x:Nat) (l2:List Nat) (he:l.set i x=l2):Sp w0 F0 (w.setCell ⟨b,i,none⟩ (.int .u32 x)) (ae b (aG l2) T::L):=by
 have h:=S.set (o:=i) (.int .u32 x)
 rw [Mq,he] at h
 exact h
theorem fO (l:List Nat):(aG l).size=l.length:=by simp [aG]
theorem kV (l:List Nat):(aG l).all (·.oneCell')=true:=by
 rw [Array.all_eq_true_iff_forall_mem]
 intro x hx
 simp only [aG,List.mem_toArray,List.mem_map] at hx
 obtain ⟨n,_,rfl⟩:=hx
 rfl
theorem Vk:(Tryz.prog.info? 318).map (·.size)=some 16:=by kernel_rfl
theorem ng {l:List Nat} (h:l.length=16):(Tryz.prog.info? 318).map (·.size)=some (aG l).size:=Vk.trans (by rw [fO,h])
theorem KF (s:Bs) (a b:Nat):(ByteArray.mk s.toArray).extract a b=⟨((s.take b).drop a).toArray⟩:=by
 apply ByteArray.ext
 simp [ByteArray.data_extract,List.drop_take]
theorem ab6 (n:Nat):((n:Int) % 4294967296)=((n % 4294967296:Nat):Int):=by omega
theorem KG (n:Nat):IntKind.u32.wrap (n:Int)=((n % 4294967296:Nat):Int):=by rw [IntKind.wrap_u32];omega
theorem FY (s:Bs) (h:s.length≤8) (S:Sp w0 F0 w L):Calls Tryz.prog 267 #[.string ⟨s.toArray⟩] w fun e w2=>e=.returned (.tuple #[.int .u64 (ky s s.length),.int .i64 0])∧Sp w0 F0 w2 L:=by
 refine (I8 s h w).mono ?_
 rintro e w2 ⟨he,q,rfl⟩
 exact ⟨he,S.drewN q⟩
theorem RS (key aB:Bs) (n:Nat) (hk:key.length=32) (hz:aB.length=12) (hn:n<4294967296) (S:Sp w0 F0 w L):Calls Tryz.prog 252 #[.string ⟨key.toArray⟩,.int .u32 n,.string ⟨aB.toArray⟩] w fun e w2=>e=.returned (.agg (aG (oJ key n aB)))∧Sp w0 F0 w2 L:=by
 have HK:=Lib.hid hk
 have HZ:=Lib.hid hz
 have Zj:=Lib.hid hn
 have bV:Hid (Sp w0 F0 (w.alloc (.cells #[.int .u32 0,.int .u32 0,.int .u32 0,.int .u32 0,.int .u32 0,.int .u32 0,.int .u32 0,.int .u32 0,.int .u32 0,.int .u32 0,.int .u32 0,.int .u32 0,.int .u32 0,.int .u32 0,.int .u32 0,.int .u32 0] 318)) (ae w.heap.size (aG (List.replicate 16 0)) 318::L)):=Lib.hid (S.box (aG (List.replicate 16 0)) 318)
 have Un:=dZ (mI++key) (dF n 4) (by rw [dS];simp [maxLen,mI];omega)
 have Uo:=dZ (mI++key++dF n 4) aB (by simp [maxLen,mI,dS];omega)
 have XP:∀ W,(Op.stringOp .add ⟨#[101,120,112,97,110,100,32,51,50,45,98,121,116,101,32,107]⟩ ⟨key.toArray⟩).run Tryz.prog W=.ok (.string ⟨(mI++key).toArray⟩) W:=dZ mI key (by simp [maxLen,mI];omega)
 have HBT:Hid (mI++key++dF n 4++aB=xH key n aB):=rfl
 rw [HBT.out] at Uo
 have Jb:Hid ((xH key n aB).length=64):=by unfold xH Hid;simp [mI,dS];omega
 have Cz:Hid (oJ key n aB=lJ (xH key n aB) 16):=rfl
 have RU:=Lib.hid (pX n 4)
 have hw:IntKind.u64.wrap (n:Int)=n:=by rw [IntKind.wrap_u64];omega
 clear S HBT hk hz hn
 generalize xH key n aB=t at *
 generalize oJ key n aB=bl at *
 generalize mI++key++dF n 4=t3 at *
 generalize mI++key=t2 at *
 go_enter Tryz.func252,Tryz.ntmps252
 go_wp2_with fail
 refine (Calls.Zb (RU.out _ (by decide)) bV.out).mono ?_
 rintro e w2 ⟨rfl,S⟩
 have bX:=Lib.hid S
 generalize w.heap.size=g0 at *
 have HS2:Hid (Sp w0 F0 (w2.alloc (.cells #[.int .u32 0,.int .u32 0,.int .u32 0,.int .u32 0,.int .u32 0,.int .u32 0,.int .u32 0,.int .u32 0,.int .u32 0,.int .u32 0,.int .u32 0,.int .u32 0,.int .u32 0,.int .u32 0,.int .u32 0,.int .u32 0] 318)) (ae w2.heap.size (aG (List.replicate 16 0)) 318::ae g0 (aG (List.replicate 16 0)) 318::L)):=Lib.hid (S.box (aG (List.replicate 16 0)) 318)
 clear S bV bX RU
 go_wp2_with fail
 generalize (w2.alloc _)=w3 at *
 generalize w2.heap.size=g1 at *
 clear XP Un Uo hw
 go_loopw [20] (fun i wr=>∃ k:Nat,i=.int .i64 k∧k≤16∧Sp w0 F0 wr (ae g1 (aG (lJ t k)) 318::ae g0 (aG (List.replicate 16 0)) 318::L)) (fun i _=>16 - (intOf i).toNat)
 case atStart=>exact ⟨0,rfl,Nat.zero_le _,HS2.out⟩
 case round =>
  clear HS2
  obtain ⟨k,rfl,hk,S⟩:=hrel
  have HS:=Lib.hid S
  have vW:=Lib.hid (nE t k)
  clear S
  by_cases hlt:k<16
  ·have hlt':(k:Int)<16:=by omega
   have hcut:=KF t (4*k) (4*(k+1))
   have HD:Hid ((t.take (4*(k+1))).drop (4*k)=(t.drop (4*k)).take 4):=by unfold Hid;rw [List.drop_take,show 4*(k+1) - 4*k=4 by omega]
   rw [HD.out] at hcut
   have KH:Hid (((t.drop (4*k)).take 4).length=4):=by unfold Hid;rw [List.length_take,List.length_drop,Jb.out];omega
   have HF:=Lib.hid (FY ((t.drop (4*k)).take 4) (by rw [KH.out];decide) HS.out)
   rw [KH.out] at HF
   have HU:Hid ((lJ t k).set k (ky ((t.drop (4*k)).take 4) 4 % 4294967296)=lJ t (k+1)):=rfl
   have hlen:(t.length:Int)=64:=by have:=Jb.out;omega
   clear HD KH
   generalize (t.drop (4*k)).take 4=tk at *
   generalize ky tk 4=fl at *
   go_wp2_with fail
   refine HF.out.mono ?_
   rintro e w4 ⟨rfl,S⟩
   have fk:=S.free k
   have ck:=S.uP (i:=k) (by rw [vW.out];exact hlt)
   have HP:=S.FX k (fl % 4294967296) _ HU.out
   rw [← KG] at HP
   have HP:=Lib.hid HP
   clear S HS HF hcut HU
   go_wp2_with fail
   exact ⟨⟨k+1,by go_num,by omega,HP.out⟩,by simp [intOf];omega⟩
  ·obtain rfl:k=16:=by omega
   have HP:=HS.out.ak.setRow (aG (lJ t 16))
   have bx:=HS.out.boxed
   have b2:=HS.out.ak.boxed
   rw [← Cz.out] at HP bx vW
   have HP:=Lib.hid HP
   clear Cz
   go_wp2_with (first
    | refine wpList_load_row rfl 318 _ rfl g1 rfl 318 (aG bl) (0,0) _ bx Tryz.underlying318 rfl (ng vW.out) ?_
    | refine wpList_store_row rfl 318 _ _ rfl g0 (aG bl) rfl rfl 318 _ b2 (ng vW.out) (by rw [fO,fO,vW.out];rfl) (kV _) ?_)
   refine bodyPost_ret (results_cell_row rfl _ _ g0 318 (aG bl) (0,0) _ rfl HP.out.boxed Tryz.underlying318 rfl (ng vW.out)) rfl ?_
   exact ⟨rfl,HP.out.drop.drop⟩
end
end
end Go.Proofs.YtangbdahnmomlaaGreatDoor
