/- spool, plainly: its rows, what it reads, opens, drops, recovers, writes; over a box that is real or ideal. No program. -/
import Derived.Test.YtangbdahnmomlaaGreatDoorBu11
import Derived.Test.YtangbdahnmomlaaGreatDoorBu13
import Derived.Test.YtangbdahnmomlaaGreatDoorBu16
import Derived.Test.YtangbdahnmomlaaGreatDoorBu20
import Derived.Test.YtangbdahnmomlaaGreatDoorBu23
import Derived.Test.YtangbdahnmomlaaGreatDoorBu24
set_option linter.unnecessarySimpa false
set_option linter.unusedSimpArgs false
set_option linter.unusedVariables false
namespace Go.Proofs.YtangbdahnmomlaaGreatDoor
section
open Go.RowKit Go.Maps
inductive Bx where
 | real
 | eT (D:Bs) (T:Mp ja)
def Bx.zi (B:Bx) (key aB data text:Bs):(Bs×Int)×Bx :=
 match B with
 | .real=>(iQ key aB data text,.real)
 | .eT D T=>((eD uB T D key aB data text).1,.eT (eD uB T D key aB data text).2.1 (eD uB T D key aB data text).2.2)
def Bx.open (B:Bx) (key aB data bytes:Bs):Bs×Int :=
 match B with
 | .real=>jW key aB data bytes
 | .eT _ T=>jC uB T key aB data bytes
structure aJ where
 dom:Bs
 ep:Nat
 cnt:Nat
deriving DecidableEq
abbrev aJ.agg (r:aJ):Value:=.agg #[.string ⟨r.dom.toArray⟩,.int .u64 r.ep,.int .u64 r.cnt]
def bP (id:Nat) (r:aJ):Bs:=aN (bJ id++aN r.dom++bJ r.ep++bJ r.cnt)
def dO (r:Rd):Nat×aJ×Bool×Rd :=
 let a:=r.text 400
 let i:=Rd.num ⟨a.1,false⟩ 1099511627776
 let t:=i.2.text 255
 let e:=t.2.num 1099511627776
 let c:=e.2.num 1099511627776
 (i.1,⟨t.1,e.1,c.1⟩,decide (c.2.done=0),a.2)
def indexB:Bs:=[105,110,100,101,120]
def dR:Bs:=[113,47]
def oO:Bs:=[98,97,100,47]
def aS (id ep cnt:Nat):Bs:=[113,47]++Lib.decDigits id++[46]++Lib.decDigits ep++[46]++Lib.decDigits cnt
structure Sq where
 D:Dk
 B:Bx
 led:Mp pO
 ring:Mp jF
 rows:Mn aJ
 last:Nat
structure Sc where
 ai:Bs
 step:Nat
 most:Nat
def dU (M:Mn aJ) (id:Nat) (r:aJ):Mn aJ:=if r.ep=0 then M.del id else M.put id r
def rowAt (M:Mn aJ) (id:Nat):aJ:=(M.get id).getD ⟨[],0,0⟩
def aU (M:Mn aJ) (id:Nat):Bs:=aS id (rowAt M id).ep (rowAt M id).cnt
def Sq.know (Q:Sq) (id:Nat) (r:aJ):Sq:={ Q with last:=max Q.last id,rows:=dU Q.rows id r }
def iJ (M:Mp jF) (d:Bs) (n:Nat):Bool:=decide (0<n) && (decide (n=(ax M d).now) || decide (n=(ax M d).old))
def dQ (B:Bx) (key text:Bs):En×Bs×Int:=iP (B.open key) text
def wH (ring:Mp jF) (id:Nat) (r:aJ) (q:En×Bs×Int):Bool:=decide (q.2.2=0) && decide (q.1.id=id) && decide (q.1.dom=r.dom) && decide (q.1.ep=r.ep) && decide (q.1.cnt=r.cnt) && iJ ring r.dom r.ep
def Sq.open (Q:Sq) (ai:Bs) (id:Nat):En×Bs×Bool :=
 if Q.D.now.has (aU Q.rows id)=true then
  if (rowAt Q.rows id).dom.length≤255 then
   if wH Q.ring id (rowAt Q.rows id) (dQ Q.B (nR ai (rowAt Q.rows id).dom (rowAt Q.rows id).ep) ((Q.D.now.get (aU Q.rows id)).getD []))=true then
    ((dQ Q.B (nR ai (rowAt Q.rows id).dom (rowAt Q.rows id).ep) ((Q.D.now.get (aU Q.rows id)).getD [])).1,(dQ Q.B (nR ai (rowAt Q.rows id).dom (rowAt Q.rows id).ep) ((Q.D.now.get (aU Q.rows id)).getD [])).2.1,true)
   else (En.zero,[],false)
  else (En.zero,[],false)
 else (En.zero,[],false)
def nI (f:Bs):Bs:=if dR.isPrefixOf f then f.drop 2 else f
def fE (D:Dk) (f:Bs):Dk×Int:=D.rename f (oO++nI f)
def Sq.drop (Q:Sq) (id:Nat):Sq×Int :=
 if (fE Q.D (aU Q.rows id)).2≠0∧(fE Q.D (aU Q.rows id)).2≠10 then ({ Q with D:=(fE Q.D (aU Q.rows id)).1 },(fE Q.D (aU Q.rows id)).2)
 else if ((fE Q.D (aU Q.rows id)).1.append indexB (bP id ⟨(rowAt Q.rows id).dom,0,0⟩)).2≠0 then
  ({ Q with D:=((fE Q.D (aU Q.rows id)).1.append indexB (bP id ⟨(rowAt Q.rows id).dom,0,0⟩)).1 },((fE Q.D (aU Q.rows id)).1.append indexB (bP id ⟨(rowAt Q.rows id).dom,0,0⟩)).2)
 else (({ Q with D:=((fE Q.D (aU Q.rows id)).1.append indexB (bP id ⟨(rowAt Q.rows id).dom,0,0⟩)).1 }:Sq).know id ⟨(rowAt Q.rows id).dom,0,0⟩,0)
def mJ:Nat→Bs→List (Nat×aJ)×Bs
 | 0,s=>([],s)
 | f+1,s=>if (dO ⟨s,false⟩).2.2.1 then (((dO ⟨s,false⟩).1,(dO ⟨s,false⟩).2.1)::(mJ f (dO ⟨s,false⟩).2.2.2.s).1,(mJ f (dO ⟨s,false⟩).2.2.2.s).2) else ([],s)
def gK (s:Bs):List (Nat×aJ):=(mJ (s.length+1) s).1
def gW (s:Bs):Bs:=(mJ (s.length+1) s).2
def fH (l:List (Nat×aJ)):Mn aJ×Nat:=l.foldl (fun q p=>(dU q.1 p.1 p.2,max q.2 p.1)) ([],0)
def indexOf (D:Dk):Bs:=(D.now.get indexB).getD []
def eP (D:Dk):Dk×Int :=
 if D.now.has indexB=true∧gW (indexOf D)=[] then (D,0)
 else if (D.write indexB ((indexOf D).take ((indexOf D).length - (gW (indexOf D)).length))).2≠0 then D.write indexB ((indexOf D).take ((indexOf D).length - (gW (indexOf D)).length))
 else (D.write indexB ((indexOf D).take ((indexOf D).length - (gW (indexOf D)).length))).1.sync
structure Rec where
 Q:Sq
 files:Mp Bool
 done:Bool
def bE (ai:Bs):List Nat→Rec→Rec×Int
 | [],r=>(r,0)
 | id::l,r =>
  if (r.Q.open ai id).2.2=true then bE ai l { r with files:=r.files.put (aU r.Q.rows id) true }
  else if (r.Q.drop id).2≠0 then ({ r with Q:=(r.Q.drop id).1 },(r.Q.drop id).2)
  else bE ai l { r with Q:=(r.Q.drop id).1,done:=true }
def iY (files:Mp Bool):List Bs→Dk→Bool→Dk×Bool×Int
 | [],D,d=>(D,d,0)
 | f::l,D,d=>if files.get f=some true then iY files l D d else if (fE D f).2≠0 then ((fE D f).1,d,(fE D f).2) else iY files l (fE D f).1 true
def Sq.ids (Q:Sq):List Nat:=Q.rows.map (·.1)
def Sq.recover (Q:Sq) (ai:Bs):Sq×Int :=
 let a:=bE ai Q.ids ⟨Q,[],false⟩
 if a.2≠0 then (a.1.Q,a.2)
 else
  let b:=iY a.1.files (a.1.Q.D.now.names dR) a.1.Q.D a.1.done
  if b.2.2≠0 then ({ a.1.Q with D:=b.1 },b.2.2)
  else if b.2.1=false then ({ a.1.Q with D:=b.1 },0)
  else ({ a.1.Q with D:=b.1.sync.1 },b.1.sync.2)
def tK (D:Dk) (B:Bx) (led:Mp pO) (ring:Mp jF):Sq:=⟨D,B,led,ring,(fH (gK (indexOf D))).1,(fH (gK (indexOf D))).2⟩
def gZ (c:Sc) (D:Dk) (B:Bx):Dk×Option Sq×Int :=
 if c.step<1∨1000<c.step∨1099511627776<c.most then (D,none,1)
 else
  let a:=aR D
  match a.2.1 with
  | none=>(a.1,none,a.2.2)
  | some led =>
   let b:=bB a.1
   match b.2.1 with
   | none=>(b.1,none,b.2.2)
   | some ring =>
    let i:=eP b.1
    if i.2≠0 then (i.1,none,i.2)
    else
     let r:=({ tK b.1 B led ring with D:=i.1 }:Sq).recover c.ai
     if r.2≠0 then (r.1.D,none,r.2) else (r.1.D,some r.1,0)
def Sq.lay (Q:Sq) (id:Nat) (r:aJ):Sq×Int :=
 if (Q.D.append indexB (bP id r)).2≠0 then ({ Q with D:=(Q.D.append indexB (bP id r)).1 },(Q.D.append indexB (bP id r)).2)
 else if (Q.D.append indexB (bP id r)).1.sync.2≠0 then ({ Q with D:=(Q.D.append indexB (bP id r)).1.sync.1 },(Q.D.append indexB (bP id r)).1.sync.2)
 else (({ Q with D:=(Q.D.append indexB (bP id r)).1.sync.1 }:Sq).know id r,0)
def dh (B:Bx) (key:Bs) (e:En) (body:Bs):(Bs×Int)×Bx :=
 (iO e body (B.zi key (bR e.cnt) (dC e) (fQ body)).1,if dz e=true∧body.length≤16000 then (B.zi key (bR e.cnt) (dC e) (fQ body)).2 else B)
def Sq.dV (Q:Sq) (d:Bs):Nat:=(ax Q.ring d).now
def Sq.next (Q:Sq) (c:Sc) (d:Bs):Dk×Mp pO×Bs×Int:=aQ Q.D Q.led c.step c.most (bH d (Q.dV d))
def Sq.entry (Q:Sq) (c:Sc) (e:En):En:={ e with ep:=Q.dV e.dom,cnt:=(bK (Q.next c e.dom).2.1 (bH e.dom (Q.dV e.dom))).c - 1 }
def Sq.aZ (Q:Sq) (c:Sc) (e:En) (body:Bs):Sq×Bs×Int :=
 if (Q.next c e.dom).2.2.2≠0 then ({ Q with D:=(Q.next c e.dom).1,led:=(Q.next c e.dom).2.1 },[],(Q.next c e.dom).2.2.2)
 else if 255<e.dom.length then ({ Q with D:=(Q.next c e.dom).1,led:=(Q.next c e.dom).2.1 },[],5)
 else ({ Q with D:=(Q.next c e.dom).1,led:=(Q.next c e.dom).2.1,B:=(dh Q.B (nR c.ai e.dom (Q.dV e.dom)) (Q.entry c e) body).2 },(dh Q.B (nR c.ai e.dom (Q.dV e.dom)) (Q.entry c e) body).1.1,(dh Q.B (nR c.ai e.dom (Q.dV e.dom)) (Q.entry c e) body).1.2)
def Sq.wrote (Q:Sq) (file:Bs) (text:Bs) (id:Nat) (r:aJ) (old:Option Bs):Sq×Int :=
 if (Q.D.write file text).2≠0 then ({ Q with D:=(Q.D.write file text).1 },(Q.D.write file text).2)
 else
  let l:=({ Q with D:=(Q.D.write file text).1 }:Sq).lay id r
  if l.2≠0 then ({ l.1 with D:=(l.1.D.remove file).1 },l.2)
  else match old with
   | none=>(l.1,0)
   | some o=>if o=file then (l.1,0) else ({ l.1 with D:=(l.1.D.remove o).1 },(l.1.D.remove o).2)
def Sq.write (Q:Sq) (c:Sc) (e:En) (body:Bs):Sq×Int :=
 let s:=Q.aZ c e body
 if s.2.2≠0 then (s.1,s.2.2)
 else s.1.wrote (aS e.id (Q.entry c e).ep (Q.entry c e).cnt) s.2.1 e.id ⟨e.dom,(Q.entry c e).ep,(Q.entry c e).cnt⟩ (if Q.rows.has e.id=true then some (aU Q.rows e.id) else none)
def sF (e:En) (id:Nat):Bool:=dz { e with id:=id,ep:=1,cnt:=0 }
def Sq.put (Q:Sq) (c:Sc) (e:En) (body:Bs):Sq×Nat×Int :=
 if sF e 1=false then (Q,0,2)
 else if 16000<body.length then (Q,0,5)
 else if Q.last=1099511627776 then (Q,0,4)
 else
  let w:=Q.write c { e with id:=Q.last+1 } body
  if w.2≠0 then (w.1,0,w.2) else (w.1,Q.last+1,0)
def Sq.load (Q:Sq) (ai:Bs) (id:Nat):Sq×En×Bs×Int :=
 if Q.rows.has id=false then (Q,En.zero,[],10)
 else if (Q.open ai id).2.2=true then (Q,(Q.open ai id).1,(Q.open ai id).2.1,0)
 else if (Q.drop id).2≠0 then ((Q.drop id).1,En.zero,[],(Q.drop id).2)
 else if (Q.drop id).1.D.sync.2≠0 then ({ (Q.drop id).1 with D:=(Q.drop id).1.D.sync.1 },En.zero,[],(Q.drop id).1.D.sync.2)
 else ({ (Q.drop id).1 with D:=(Q.drop id).1.D.sync.1 },En.zero,[],20)
def Sq.update (Q:Sq) (c:Sc) (e:En):Sq×Int :=
 let l:=Q.load c.ai e.id
 if l.2.2.2≠0 then (l.1,l.2.2.2)
 else if sF e e.id=false then (l.1,2)
 else if e.dom≠l.2.1.dom then (l.1,1)
 else l.1.write c e l.2.2.1
def Sq.remove (Q:Sq) (id:Nat):Sq×Int :=
 if Q.rows.has id=false then (Q,10)
 else
  let l:=Q.lay id ⟨(rowAt Q.rows id).dom,0,0⟩
  if l.2≠0 then l
  else ({ l.1 with D:=(l.1.D.remove (aU Q.rows id)).1 },if (l.1.D.remove (aU Q.rows id)).2=10 then 0 else (l.1.D.remove (aU Q.rows id)).2)
def Sq.begin (Q:Sq) (d:Bs):Sq×Int:=({ Q with D:=(fA Q.D Q.ring d).1,ring:=(fA Q.D Q.ring d).2.1 },(fA Q.D Q.ring d).2.2.2)
def bZ (M:Mn aJ) (d:Bs) (old:Nat):List Nat→Option Nat
 | []=>none
 | id::l=>if (rowAt M id).dom=d∧(rowAt M id).ep=old then some id else bZ M d old l
def Sq.step (Q:Sq) (c:Sc) (d:Bs):Sq×Bool×Int :=
 if (ax Q.ring d).old=0 then (Q,false,10)
 else match bZ Q.rows d (ax Q.ring d).old Q.ids with
  | some id =>
   let l:=Q.load c.ai id
   if l.2.2.2=0 then ((l.1.write c l.2.1 l.2.2.1).1,false,(l.1.write c l.2.1 l.2.2.1).2)
   else if l.2.2.2=20 then (l.1,false,0)
   else (l.1,false,l.2.2.2)
  | none =>
   let r:=fU Q.D Q.ring d
   ({ Q with D:=r.1,ring:=r.2.1 },decide (r.2.2=0),r.2.2)
end
end Go.Proofs.YtangbdahnmomlaaGreatDoor
