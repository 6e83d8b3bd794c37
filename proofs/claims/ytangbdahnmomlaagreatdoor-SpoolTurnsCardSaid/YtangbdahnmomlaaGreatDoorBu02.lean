/- How a statement's arguments come: slices of structs of one-cell fields, slices of texts; what shuts a statement. No condition. addr, plainly: -/
import Derived.ChangeOld
import Derived.ChangeSame
import Derived.Deep.Fields
import Derived.Deep.Slices
import Derived.Lib.ItoaNum
import Derived.Lib.Split
import Derived.OpenShut
import Derived.ProofKit
import Derived.ShutString
import Derived.Test.YtangbdahnmomlaaGreatDoorBu00
import Derived.Test.YtangbdahnmomlaaGreatDoorBu01
import Derived.Test.YtangbdahnmomlaaGreatDoorRows
set_option linter.unnecessarySimpa false
set_option linter.unusedSimpArgs false
set_option linter.unusedVariables false
namespace Go.Proofs.YtangbdahnmomlaaGreatDoor
section
open Go.ChangeShapes Go.WideShapes Go.ChangeAt Go.RowKit Go.Deep
open Go.ChangeMaps (open_string shut_string)
theorem laidOut:laidOutB Tryz.prog=true:=by kernel_rfl
def rA (w:World) (a:Option Addr) (k:Nat) (rows:List (List Value)):Prop:=rows=[]∨∃ b off,a=some ⟨b,off,none⟩∧∀ i r,rows[i]? = some r→∀ j v,r[j]? = some v→w.cell? ⟨b,off+i*k+j,none⟩=some v
theorem rA.ext {w w2:World} {a:Option Addr} {k:Nat} {rows:List (List Value)} (h:rA w a k rows) (hx:Ext [] w w2):rA w2 a k rows:=by
 rcases h with h | ⟨b,off,h1,h2⟩
 ·exact .inl h
 ·exact .inr ⟨b,off,h1,fun i r hr j v hv=>hx.cell (h2 i r hr j v hv) (by simp)⟩
theorem rA.at {w:World} {b off k:Nat} {rows:List (List Value)} (h:rA w (some ⟨b,off,none⟩) k rows) (i:Nat) (r:List Value) (hr:rows[i]? = some r) (j:Nat) (v:Value) (hv:r[j]? = some v):w.cell? ⟨b,off+i*k+j,none⟩=some v:=by
 rcases h with rfl | ⟨b',off',h1,h2⟩
 ·cases hr
 ·simp only [Option.some.injEq,Addr.mk.injEq,and_true] at h1
  obtain ⟨rfl,rfl⟩:=h1
  exact h2 i r hr j v hv
theorem rA.addr {w:World} {a:Option Addr} {k:Nat} {rows:List (List Value)} (h:rA w a k rows) {i:Nat} (hi:i<rows.length):∃ b off,a=some ⟨b,off,none⟩:=by
 rcases h with rfl | ⟨b,off,h1,_⟩
 ·cases hi
 ·exact ⟨b,off,h1⟩
end
section
def Rb (c:UInt8):Bool:=(decide (97≤c.toNat) && decide (c.toNat≤122)) || (decide (65≤c.toNat) && decide (c.toNat≤90)) || (decide (48≤c.toNat) && decide (c.toNat≤57))
def Dr (c:UInt8):Bool:=Rb c || c == 45
def zS (c:UInt8):Bool:=decide (32≤c.toNat) && decide (c.toNat≤126)
def zT (p:UInt8→Bool) (s:Bs):Bool:=s.all p && !s.isEmpty
def BM (c:UInt8):UInt8:=if 65≤c.toNat∧c.toNat≤90 then c+32 else c
def iw (s:Bs):Bs:=s.map BM
def pz (s:Bs):Bool:=decide (s.length≤63) && (zT Dr s && (!(s.head? == some 45) && !(s.getLast? == some 45)))
def Ub (s:Bs):List Bs:=Lib.split s [46]
def xw (p:Bs→Bool) (s:Bs):Bool:=(Ub s).all p
def vB (s:Bs):Bool:=decide (s.length≤255) && xw pz s
def oz (s:Bs):Bs×Int:=if vB s then (iw s,0) else ([],2)
def pE (s:Bs):Bool:=decide (s.length≤64) && zT zS s
abbrev Mb:=Bs×Bs
def ko (b:Mb):Bool:=vB b.2 && iw b.2 == b.2 && pE b.1
def nk (b:Mb):Bool:=b.1 == [] && b.2 == []
end
section
end
section
def mE (d:UInt8):Bs→List Bs
 | []=>[[]]
 | c::r=>if c=d then []::mE d r else ((c::(mE d r).headD [])::(mE d r).tail)
theorem Rc (d:UInt8):∀ s:Bs,mE d s≠[]
 | []=>by simp [mE]
 | c::r=>by unfold mE;split <;> simp
theorem EW (d:UInt8) (s:Bs):(mE d s).headD []::(mE d s).tail=mE d s:=by
 cases h:mE d s with
 | nil=>exact absurd h (Rc d s)
 | cons a b=>rfl
theorem zU (c d:UInt8) (r:Bs):Lib.index (c::r) [d]=if c=d then 0 else if Lib.index r [d] == -1 then -1 else Lib.index r [d]+1:=by
 conv=>lhs;unfold Lib.index
 by_cases h:c=d
 ·subst h;simp [List.isPrefixOf]
 ·have:([d].isPrefixOf (c::r))=false:=by simp [List.isPrefixOf];exact fun e=>h e.symm
  rw [this,if_neg h]
  simp
theorem Cg (d:UInt8):∀ (n:Nat) (s:Bs),s.length≤n→Lib.split s [d]=mE d s:=by
 intro n
 induction n with
 | zero =>
  intro s h
  obtain rfl:=List.eq_nil_of_length_eq_zero (Nat.le_zero.1 h)
  rfl
 | succ n ih =>
  intro s h
  cases s with
  | nil=>rfl
  | cons c r =>
   have hr:=ih r (by simpa using h)
   have hi:=zU c d r
   by_cases hc:c=d
   ·rw [if_pos hc] at hi
    have hcnt:=Lib.count_hit (s:=c::r) (sub:=[d]) (i:=0) (by simp) hi
    unfold Lib.split
    rw [hcnt,Nat.add_comm]
    unfold Lib.splitK
    rw [hi,if_neg (by simp)]
    unfold mE
    rw [if_pos hc,← hr]
    rfl
   ·rw [if_neg hc] at hi
    unfold mE
    rw [if_neg hc,← hr]
    by_cases hm:Lib.index r [d] = -1
    ·rw [hm] at hi
     have h1:Lib.index (c::r) [d] = -1:=hi
     unfold Lib.split
     rw [Lib.count_miss h1,Lib.count_miss hm]
     rfl
    ·have hge:=Lib.index_ge r [d]
     obtain ⟨k,hk⟩:∃ k:Nat,Lib.index r [d]=k:=⟨(Lib.index r [d]).toNat,by omega⟩
     have h1:Lib.index (c::r) [d]=((k+1:Nat):Int):=by
      rw [hi,if_neg (by simpa using hm),hk];omega
     unfold Lib.split
     rw [Lib.count_hit (by simp) h1,Lib.count_hit (by simp) hk,Nat.add_comm 1,Nat.add_comm 1]
     have e1:(c::r).drop (k+1+[d].length)=r.drop (k+[d].length):=by
      rw [show k+1+[d].length=(k+[d].length)+1 by simp,List.drop_succ_cons]
     rw [e1]
     conv=>lhs;unfold Lib.splitK
     conv=>rhs;unfold Lib.splitK
     rw [h1,hk,if_neg (by simp;omega),if_neg (by simp)]
     simp only [Int.toNat_natCast,Nat.add_zero,List.take_succ_cons,List.headD_cons,List.tail_cons,List.length_cons,List.length_nil,List.drop_succ_cons]
theorem N9 (s:Bs):Ub s=mE 46 s:=Cg 46 s.length s (Nat.le_refl _)
end
section
abbrev lu:=Mb×Int
structure En where
 id:Nat
 dom:Bs
 ep:Nat
 cnt:Nat
 mX:Mb
 gz:List lu
 born:Nat
 jM:Nat
 tries:Int
def En.zero:En:=⟨0,[],0,0,([],[]),[],0,0,0⟩
structure En.Fit (e:En):Prop where
 id:e.id<18446744073709551616
 ep:e.ep<18446744073709551616
 cnt:e.cnt<18446744073709551616
 born:e.born<18446744073709551616
 jM:e.jM<18446744073709551616
 tries : -9223372036854775808≤e.tries∧e.tries≤9223372036854775807
 dom:e.dom.length≤1000000
 mX:e.mX.1.length≤1000000∧e.mX.2.length≤1000000
 gz:e.gz.length≤1000
 each:∀ x∈e.gz,x.1.1.length≤1000000∧x.1.2.length≤1000000 ∧ -9223372036854775808≤x.2∧x.2≤9223372036854775807
def qU (x:lu):Bool:=ko x.1 && decide (0≤x.2) && decide (x.2≤2)
def jR (l:List lu):Bool:=decide (1≤l.length) && decide (l.length≤10) && l.all qU
def oC (d:Bs):Bool:=vB d && iw d == d
def sV (e:En):Bool:=decide (1≤e.id) && decide (1≤e.ep) && decide (e.id≤1099511627776) && decide (e.ep≤1099511627776) && decide (e.cnt≤1099511627776) && decide (e.born≤1099511627776) && decide (e.jM≤1099511627776) && decide (0≤e.tries) && decide (e.tries≤100)
def dz (e:En):Bool:=oC e.dom && sV e && (nk e.mX || ko e.mX) && jR e.gz
def Dt (x:lu):Bs:=aN x.1.1++aN x.1.2++bJ x.2.toNat
def dC (e:En):Bs:=bJ e.id++aN e.dom++bJ e.ep++bJ e.cnt++aN e.mX.1++aN e.mX.2++bJ e.gz.length++e.gz.flatMap Dt++bJ e.born++bJ e.jM++bJ e.tries.toNat
def xy (e:En):Bs×Int:=if dz e then (dC e,0) else ([],2)
def lQ (m:Nat) (r:Rd):Mb×Rd:=(((r.text m).1,((r.text m).2.text m).1),((r.text m).2.text m).2)
def BN (m:Nat) (r:Rd):lu×Rd:=(((lQ m r).1,((lQ m r).2.num 2).1),((lQ m r).2.num 2).2)
def jc (m:Nat):Nat→Rd→List lu×Rd
 | 0,r=>([],r)
 | n+1,r=>((BN m r).1::(jc m n (BN m r).2).1,(jc m n (BN m r).2).2)
def pF (m:Nat) (r:Rd):En×Rd :=
 let a:=r.num 1099511627776
 let b:=a.2.text m
 let c:=b.2.num 1099511627776
 let d:=c.2.num 1099511627776
 let f:=lQ m d.2
 let n:=f.2.num 10
 let l:=jc m n.1 n.2
 let g:=l.2.num 1099511627776
 let h:=g.2.num 1099511627776
 let t:=h.2.num 100
 (⟨a.1,b.1,c.1,d.1,f.1,l.1,g.1,h.1,t.1⟩,t.2)
def iW (m:Nat) (s:Bs):En×Int:=if (pF m ⟨s,false⟩).2.done=0∧dz (pF m ⟨s,false⟩).1=true then ((pF m ⟨s,false⟩).1,0) else (En.zero,2)
def zeros (n:Nat):Bs:=List.replicate n 0
def bucket (n:Nat):Nat:=if n≤256 then 256 else if n≤1024 then 1024 else if n≤4096 then 4096 else 16384
def fQ (b:Bs):Bs:=aN b++zeros (bucket (aN b).length - (aN b).length)
def nu (b:Bs):Bs×Int:=if b.length≤16000 then (fQ b,0) else ([],5)
def ny (s:Bs):Bs:=(Rd.text ⟨s,false⟩ 16000).1
def eF (s:Bs):Bs×Int:=if fQ (ny s)=s then (ny s,0) else ([],2)
def zV (e:En):Bs:=[113,47]++Lib.decDigits e.id++[46]++Lib.decDigits e.ep++[46]++Lib.decDigits e.cnt
def uE (a b:En):Bool:=decide (a.id=b.id∧a.dom=b.dom∧a.ep=b.ep∧a.cnt=b.cnt∧a.mX=b.mX∧a.gz=b.gz∧a.born=b.born∧a.jM=b.jM∧a.tries=b.tries)
theorem Iq {s:Bs} {m:Nat} (h:s.length≤m) (hm:m≤1000000):s.length<18446744073709551616:=by omega
theorem Ch (b:Mb) (m:Nat) (rest:Bs) (h1:b.1.length≤m) (h2:b.2.length≤m) (hm:m≤1000000):lQ m ⟨aN b.1++(aN b.2++rest),false⟩=(b,⟨rest,false⟩):=by
 unfold lQ
 rw [iD b.1 m _ (Iq h1 hm) h1,iD b.2 m _ (Iq h2 hm) h2]
theorem LF (x:lu) (m:Nat) (rest:Bs) (h1:x.1.1.length≤m) (h2:x.1.2.length≤m) (hm:m≤1000000) (h3:0≤x.2) (h4:x.2≤2):BN m ⟨Dt x++rest,false⟩=(x,⟨rest,false⟩):=by
 unfold BN Dt
 have e:aN x.1.1++aN x.1.2++bJ x.2.toNat++rest=aN x.1.1++(aN x.1.2++(bJ x.2.toNat++rest)):=by simp
 rw [e,Ch x.1 m _ h1 h2 hm,gT x.2.toNat 2 rest (by omega) (by omega)]
 obtain ⟨b,z⟩:=x
 dsimp only at *
 rw [Int.toNat_of_nonneg h3]
theorem zW (m:Nat) (hm:m≤1000000) (rest:Bs):∀ l:List lu,(∀ x∈l,x.1.1.length≤m∧x.1.2.length≤m∧0≤x.2∧x.2≤2)→jc m l.length ⟨l.flatMap Dt++rest,false⟩=(l,⟨rest,false⟩)
 | [],_=>rfl
 | x::l,h=>by
  obtain ⟨h1,h2,h3,h4⟩:=h x (by simp)
  rw [List.length_cons,List.flatMap_cons,List.append_assoc,jc,LF x m _ h1 h2 hm h3 h4,zW m hm rest l (fun y hy=>h y (by simp [hy]))]
theorem Ir {d:Bs} (h:oC d=true):d.length≤255:=by
 unfold oC vB at h
 simp only [Bool.and_eq_true,decide_eq_true_eq] at h
 exact h.1.1
theorem xz {b:Mb} (h:ko b=true):b.1.length≤64∧b.2.length≤255:=by
 unfold ko vB pE at h
 simp only [Bool.and_eq_true,decide_eq_true_eq] at h
 exact ⟨h.2.1,h.1.1.1⟩
theorem EX {x:lu} (h:qU x=true):x.1.1.length≤64∧x.1.2.length≤255∧0≤x.2∧x.2≤2:=by
 unfold qU at h
 simp only [Bool.and_eq_true,decide_eq_true_eq] at h
 exact ⟨(xz h.1.1).1,(xz h.1.1).2,h.1.2,h.2⟩
theorem Re {b:Mb} (h:(nk b || ko b)=true):b.1.length≤64∧b.2.length≤255:=by
 rw [Bool.or_eq_true] at h
 rcases h with h | h
 ·unfold nk at h
  simp only [Bool.and_eq_true,beq_iff_eq] at h
  simp [h.1,h.2]
 ·exact xz h
structure En.Parts (e:En):Prop where
 dom:e.dom.length≤255
 mX:e.mX.1.length≤64∧e.mX.2.length≤255
 gz:1≤e.gz.length∧e.gz.length≤10
 each:∀ x∈e.gz,x.1.1.length≤64∧x.1.2.length≤255∧0≤x.2∧x.2≤2
 id:1≤e.id∧e.id≤1099511627776
 ep:1≤e.ep∧e.ep≤1099511627776
 cnt:e.cnt≤1099511627776
 born:e.born≤1099511627776
 jM:e.jM≤1099511627776
 tries:0≤e.tries∧e.tries≤100
theorem bT {e:En} (h:dz e=true):e.Parts:=by
 unfold dz sV jR at h
 simp only [Bool.and_eq_true,decide_eq_true_eq,List.all_eq_true] at h
 obtain ⟨⟨⟨h1,h2⟩,h3⟩,⟨h4,h5⟩,h6⟩:=h
 obtain ⟨⟨⟨⟨⟨⟨⟨⟨a1,a2⟩,a3⟩,a4⟩,a5⟩,a6⟩,a7⟩,a8⟩,a9⟩:=h2
 exact ⟨Ir h1,Re h3,⟨h4,h5⟩,fun x hx=>EX (h6 x hx),⟨a1,a3⟩,⟨a2,a4⟩,a5,a6,a7,⟨a8,a9⟩⟩
theorem zX (e:En) (rest:Bs):dC e++rest=bJ e.id++(aN e.dom++(bJ e.ep++(bJ e.cnt++(aN e.mX.1++(aN e.mX.2++(bJ e.gz.length++(e.gz.flatMap Dt++(bJ e.born++(bJ e.jM++(bJ e.tries.toNat++rest)))))))))):=by
 unfold dC
 simp only [List.append_assoc]
theorem LG (e:En) (h:e.Parts) (m:Nat) (h0:255≤m) (hm:m≤1000000) (rest:Bs):pF m ⟨dC e++rest,false⟩=(e,⟨rest,false⟩):=by
 obtain ⟨h1,⟨h2,h3⟩,⟨_,h4⟩,h5,⟨_,h6⟩,⟨_,h7⟩,h8,h9,h10,h11,h12⟩:=h
 rw [zX]
 unfold pF
 dsimp only
 rw [gT e.id _ _ (by omega) h6]
 dsimp only
 rw [iD e.dom m _ (Iq (by omega) hm) (by omega)]
 dsimp only
 rw [gT e.ep _ _ (by omega) h7]
 dsimp only
 rw [gT e.cnt _ _ (by omega) h8]
 dsimp only
 rw [Ch e.mX m _ (by omega) (by omega) hm]
 dsimp only
 rw [gT e.gz.length _ _ (by omega) h4]
 dsimp only
 rw [zW m hm _ e.gz (fun x hx=>by obtain ⟨a,b,c,d⟩:=h5 x hx;exact ⟨by omega,by omega,c,d⟩)]
 dsimp only
 rw [gT e.born _ _ (by omega) h9]
 dsimp only
 rw [gT e.jM _ _ (by omega) h10]
 dsimp only
 rw [gT e.tries.toNat _ _ (by omega) (by omega)]
 dsimp only
 rw [Int.toNat_of_nonneg h11]
theorem Ki {m:Nat} {r:Rd} (h:(lQ m r).2.bad=false):r.bad=false∧r.s=aN (lQ m r).1.1++(aN (lQ m r).1.2++(lQ m r).2.s):=by
 unfold lQ at h ⊢
 obtain ⟨h1,h2⟩:=lq h
 obtain ⟨h3,h4⟩:=lq h1
 exact ⟨h3,by rw [← h2];exact h4⟩
theorem Rf {m:Nat} {r:Rd} (h:(BN m r).2.bad=false):r.bad=false∧r.s=Dt (BN m r).1++(BN m r).2.s:=by
 unfold BN at h ⊢
 obtain ⟨h1,h2⟩:=jQ h
 obtain ⟨h3,h4⟩:=Ki h1
 refine ⟨h3,?_⟩
 unfold Dt
 rw [h4]
 dsimp only
 rw [h2,Int.toNat_natCast]
 simp
theorem EY {m:Nat}:∀ (n:Nat) (r:Rd),(jc m n r).2.bad=false→r.bad=false∧r.s=(jc m n r).1.flatMap Dt++(jc m n r).2.s
 | 0,r,h=>⟨h,rfl⟩
 | n+1,r,h=>by
  rw [jc] at h ⊢
  obtain ⟨h1,h2⟩:=EY n _ h
  obtain ⟨h3,h4⟩:=Rf h1
  refine ⟨h3,?_⟩
  dsimp only
  rw [List.flatMap_cons,h4,h2]
  simp
theorem pG {m:Nat}:∀ (n:Nat) (r:Rd),(jc m n r).1.length=n
 | 0,r=>rfl
 | n+1,r=>by rw [jc,List.length_cons,pG n]
theorem Rh {m:Nat} {r:Rd} (h:(pF m r).2.bad=false):r.bad=false∧r.s=dC (pF m r).1++(pF m r).2.s:=by
 rw [zX]
 unfold pF at h ⊢
 dsimp only at h ⊢
 obtain ⟨a1,b1⟩:=jQ h
 obtain ⟨a2,b2⟩:=jQ a1
 obtain ⟨a3,b3⟩:=jQ a2
 obtain ⟨a4,b4⟩:=EY _ _ a3
 obtain ⟨a5,b5⟩:=jQ a4
 obtain ⟨a6,b6⟩:=Ki a5
 obtain ⟨a7,b7⟩:=jQ a6
 obtain ⟨a8,b8⟩:=jQ a7
 obtain ⟨a9,b9⟩:=lq a8
 obtain ⟨Oa,b10⟩:=jQ a9
 refine ⟨Oa,?_⟩
 rw [Int.toNat_natCast,pG,← b1,← b2,← b3,← b4,← b5,← b6,← b7,← b8,← b9]
 exact b10
theorem LH {r:Rd} (h:r.done=0):r.bad=false∧r.s=[]:=by
 obtain ⟨s,b⟩:=r
 cases b <;> cases s <;> simp_all [Rd.done]
theorem Ob:Rd.done ⟨[],false⟩=0:=rfl
theorem zY (m:Nat) (h0:255≤m) (hm:m≤1000000) (s:Bs) (e:En):((pF m ⟨s,false⟩).2.done=0∧dz (pF m ⟨s,false⟩).1=true∧(pF m ⟨s,false⟩).1=e)↔(dz e=true∧s=dC e):=by
 constructor
 ·rintro ⟨h1,h2,rfl⟩
  obtain ⟨h3,h4⟩:=LH h1
  obtain ⟨_,h5⟩:=Rh h3
  rw [h4,List.append_nil] at h5
  exact ⟨h2,h5⟩
 ·rintro ⟨h1,rfl⟩
  have:=LG e (bT h1) m h0 hm []
  rw [List.append_nil] at this
  rw [this]
  exact ⟨Ob,h1,rfl⟩
theorem EZ (m:Nat) (h0:255≤m) (hm:m≤1000000) (e:En) (h:dz e=true):iW m (dC e)=(e,0):=by
 obtain ⟨h1,h2,h3⟩:=(zY m h0 hm (dC e) e).2 ⟨h,rfl⟩
 unfold iW
 rw [if_pos ⟨h1,h2⟩,h3]
theorem Ci {m:Nat}:∀ (n:Nat) (r:Rd),∀ x∈(jc m n r).1,x.1.1.length≤m∧x.1.2.length≤m∧0≤x.2∧x.2≤2
 | 0,r=>by simp [jc]
 | n+1,r=>by
  intro x hx
  rw [jc] at hx
  rcases List.mem_cons.1 hx with rfl | hx
  ·unfold BN lQ
   dsimp only
   have h1:=jB ((r.text m).2.text m).2 2
   exact ⟨iL ..,iL ..,by omega,by omega⟩
  ·exact Ci n _ x hx
theorem Oc (m:Nat) (hm:m≤1000000) (r:Rd):(pF m r).1.Fit:=by
 unfold pF lQ
 dsimp only
 have l1:∀ (r:Rd),(r.text m).1.length≤1000000:=fun r=>Nat.le_trans (iL r m) hm
 refine ⟨zR ..,zR ..,zR ..,zR ..,zR ..,?_,l1 _,⟨l1 _,l1 _⟩,?_,?_⟩
 ·exact ⟨Int.le_trans (by decide) (Int.natCast_nonneg _),Int.le_trans (Int.ofNat_le.2 (jB _ 100)) (by decide)⟩
 ·dsimp only
  rw [pG]
  exact Nat.le_trans (jB ..) (by decide)
 ·intro x hx
  obtain ⟨a,b,c,d⟩:=Ci _ _ x hx
  exact ⟨by omega,by omega,by omega,by omega⟩
theorem Iu {n:Nat} (h:n≤16000):need n≤2:=kR (by omega)
theorem pI {b:Bs} (h:b.length≤16000):(aN b).length≤16003:=by rw [jo];have:=Iu h;omega
theorem Od (b:Bs):1≤(aN b).length:=by rw [jo];omega
theorem Cj {n:Nat} (h:n≤16384):n≤bucket n:=by
 unfold bucket
 split
 ·omega
 ·split
  ·omega
  ·split <;> omega
theorem sW (n:Nat):bucket n≤16384:=by
 unfold bucket
 split
 ·omega
 ·split
  ·omega
  ·split <;> omega
theorem pJ {b:Bs} (h:b.length≤16000):(fQ b).length=bucket (aN b).length:=by
 unfold fQ zeros
 have:=Cj (n:=(aN b).length) (by have:=pI h;omega)
 rw [List.length_append,List.length_replicate]
 omega
theorem LJ {b:Bs} (h:b.length≤16000):Rd.text ⟨fQ b,false⟩ 16000=(b,⟨zeros (bucket (aN b).length - (aN b).length),false⟩):=iD b 16000 _ (by omega) h
theorem E5 {b:Bs} (h:b.length≤16000):ny (fQ b)=b:=by unfold ny;rw [LJ h]
theorem Iw (s:Bs):(ny s).length≤16000:=iL _ _
theorem E8 {b:Bs} (h:b.length≤16000):eF (fQ b)=(b,0):=by
 unfold eF
 rw [E5 h,if_pos rfl]
end
end Go.Proofs.YtangbdahnmomlaaGreatDoor
