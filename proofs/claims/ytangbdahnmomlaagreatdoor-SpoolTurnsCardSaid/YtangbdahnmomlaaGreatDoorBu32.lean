/- spool, plainly: what files hold of a spool, and what each thing that is done to them keeps of it. No program. spool: sealed. Conditions: the -/
import Derived.Test.YtangbdahnmomlaaGreatDoorBu14
import Derived.Test.YtangbdahnmomlaaGreatDoorBu31
set_option linter.unnecessarySimpa false
set_option linter.unusedSimpArgs false
set_option linter.unusedVariables false
set_option maxHeartbeats 4000000
set_option maxRecDepth 100000
namespace Go.Proofs.YtangbdahnmomlaaGreatDoor
section
open Go.RowKit Go.Maps
theorem CU (x:Bs×Bs):∀ F:Fs,Fs.ins x F=Mp.ins x F
 | []=>rfl
 | y::r=>by
  unfold Fs.ins Mp.ins
  rw [CU x r]
theorem aW (F:Fs) (k v j:Bs):(F.put k v).get j=if k=j then some v else F.get j:=by
 have h:=Mp.get_put F k v j
 unfold Fs.put
 rw [CU]
 exact h
theorem gI (F:Fs) (k j:Bs):(F.del k).get j=if j=k then none else F.get j:=Mp.vI F k j
abbrev Nh:=Nat×aJ
def NW (l:List Nh):Bs:=(l.map fun p=>bP p.1 p.2).flatten
def K5 (p:Nh):Prop:=p.1≤1099511627776∧p.2.fit
theorem PZ (l:List Nh) (p:Nh):NW (l++[p])=NW l++bP p.1 p.2:=by simp [NW]
theorem GG (id:Nat) (r:aJ) (rest:Bs) (hi:id≤1099511627776) (hr:r.fit):dO ⟨bP id r++rest,false⟩=(id,r,true,⟨rest,false⟩):=by
 obtain ⟨d,n,o⟩:=r
 obtain ⟨h1,h2,h3⟩:=hr
 dsimp only at h1 h2 h3
 have l0:=aL id
 have l1:=aP d
 have l2:=aL n
 have l3:=aL o
 have e1:=iD (bJ id++(aN d++(bJ n++bJ o))) 400 rest (by simp only [List.length_append];omega) (by simp only [List.length_append];omega)
 have e2:=gT id 1099511627776 (aN d++(bJ n++bJ o)) (by omega) hi
 have e3:=iD d 255 (bJ n++bJ o) (by omega) h1
 have e4:=gT n 1099511627776 (bJ o) (by omega) h2
 have e5:=gT o 1099511627776 [] (by omega) h3
 rw [List.append_nil] at e5
 unfold dO bP
 simp only [List.append_assoc,e1,e2,e3,e4,e5]
 rfl
theorem JF:(dO ⟨[],false⟩).2.2.1=false:=by decide
theorem P6 (l:List Nh) (h:∀ p∈l,K5 p):gK (NW l)=l∧gW (NW l)=[]:=by
 induction l with
 | nil=>exact yX JF
 | cons p r ih =>
  obtain ⟨i1,i2⟩:=ih (fun q hq=>h q (by simp [hq]))
  have e:NW (p::r)=bP p.1 p.2++NW r:=by simp [NW]
  have hp:=h p (by simp)
  have hb:=GG p.1 p.2 (NW r) hp.1 hp.2
  rw [e]
  have h1:=yV (s:=bP p.1 p.2++NW r) (by rw [hb])
  rw [hb] at h1
  dsimp only at h1
  rw [h1.1,h1.2,i1,i2]
  exact ⟨rfl,rfl⟩
abbrev Be:=Bs×jF
def qZ (l:List Be):Bs:=(l.map fun p=>bq p.1 p.2).flatten
def wP (p:Be):Prop:=p.1.length≤255∧p.2.now≤1000000∧p.2.old≤1000000
theorem JG (l:List Be) (p:Be):qZ (l++[p])=qZ l++bq p.1 p.2:=by simp [qZ]
theorem Bf (d:Bs) (s:jF) (rest:Bs) (h:wP (d,s)):bF ⟨bq d s++rest,false⟩=(d,s,true,⟨rest,false⟩):=by
 obtain ⟨h1,h2,h3⟩:=h
 dsimp only at h1 h2 h3
 have e1:=iD (aN d++(bJ s.now++bJ s.old)) 300 rest (by
  have:=aP d;have:=aL s.now;have:=aL s.old
  simp only [List.length_append];omega) (by
  have:=aP d;have:=aL s.now;have:=aL s.old
  simp only [List.length_append];omega)
 have e2:=iD d 255 (bJ s.now++bJ s.old) (by omega) h1
 have e3:=gT s.now 1000000 (bJ s.old) (by omega) h2
 have e4:=gT s.old 1000000 [] (by omega) h3
 rw [List.append_nil] at e4
 unfold bF bq
 simp only [e1,e2,e3,e4]
 rfl
theorem JH (l:List Be) (h:∀ p∈l,wP p):iI (qZ l)=l∧eZ (qZ l)=[]:=by
 induction l with
 | nil=>exact uq Ej
 | cons p r ih =>
  obtain ⟨i1,i2⟩:=ih (fun q hq=>h q (by simp [hq]))
  have e:qZ (p::r)=bq p.1 p.2++qZ r:=by simp [qZ]
  have hb:=Bf p.1 p.2 (qZ r) (h p (by simp))
  rw [e]
  have h1:=um (s:=bq p.1 p.2++qZ r) (by rw [hb])
  rw [hb] at h1
  dsimp only at h1
  rw [h1.1,h1.2,i1,i2]
  exact ⟨rfl,rfl⟩
theorem Bg (l:List Be) (p:Be):iH (l++[p])=(iH l).put p.1 p.2:=by simp [iH]
def Bx.le (B B2:Bx):Prop:=∀ key n d s,(B.open key n d s).2=0→B2.open key n d s=B.open key n d s
theorem Bx.le.refl (B:Bx):B.le B:=fun _ _ _ _ _=>rfl
theorem Bx.le.trans {A B C:Bx} (h1:A.le B) (h2:B.le C):A.le C:=fun k n d s h=>by
 have e:=h1 k n d s h
 rw [← e]
 exact h2 k n d s (by rw [e];exact h)
theorem GH {B B2:Bx} (h:B.le B2) {key t body:Bs} {e:En} (ho:dQ B key t=(e,body,0)):dQ B2 key t=(e,body,0):=by
 unfold dQ iP at ho ⊢
 by_cases h0:(aK t).2.2.2=0
 ·rw [if_pos h0] at ho ⊢
  by_cases h1:(B.open key (bR (aK t).1.cnt) (aK t).2.1 (aK t).2.2.1).2=0
  ·rw [h _ _ _ _ h1]
   exact ho
  ·rw [if_neg h1] at ho
   exact absurd (congrArg (fun q=>q.2.2) ho) h1
 ·rw [if_neg h0] at ho
  exact absurd (congrArg (fun q=>q.2.2) ho) h0
theorem Ni (T:Mp ja) (D key n d t:Bs):(Bx.eT D T).le (Bx.eT (eD uB T D key n d t).2.1 (eD uB T D key n d t).2.2):=by
 have hT:∀ k x,T.get k=some x→(eD uB T D key n d t).2.2.get k=some x:=by
  intro k x hx
  unfold eD
  split
  ·cases hg:T.get (uB key n) with
   | none =>
    dsimp only
    split
    ·exact hx
    ·dsimp only
     rw [Mp.get_put]
     split
     ·rename_i e
      rw [e,hx] at hg
      cases hg
     ·exact hx
   | some y =>
    dsimp only
    split <;> exact hx
  ·exact hx
 intro k n2 d2 s h
 show jC uB _ k n2 d2 s=jC uB T k n2 d2 s
 have h':(jC uB T k n2 d2 s).2=0:=h
 obtain ⟨x,hx,_,_⟩:=LZ uB h'
 unfold jC
 rw [hx,hT _ _ hx]
theorem CV (B:Bx) (key:Bs) (e:En) (body:Bs):B.le (dh B key e body).2:=by
 unfold dh
 dsimp only
 split
 ·cases B with
  | real=>exact Bx.le.refl _
  | eT D T=>exact Ni T D key _ _ _
 ·exact Bx.le.refl _
theorem Bx.Nj {B:Bx} (hB:B.tX) {key n d t:Bs} (hk:key.length=32) (hn:n.length=12) (hd:d.length≤4096) (ht:t.length≤16384) (h:(B.zi key n d t).1.2=0) :
  (B.zi key n d t).2.open key n d (B.zi key n d t).1.1=(t,0):=by
 cases B with
 | real=>exact (KV key n d t hd ht).2
 | eT D T =>
  show jC uB (eD uB T D key n d t).2.2 key n d (eD uB T D key n d t).1.1=(t,0)
  have h':(eD uB T D key n d t).1.2=0:=h
  unfold eD at h' ⊢
  have hc:key.length=32∧n.length=12∧d.length≤4096∧t.length≤16384:=⟨hk,hn,hd,ht⟩
  rw [if_pos hc] at h' ⊢
  cases hg:T.get (uB key n) with
  | none =>
   rw [hg] at h'
   dsimp only at h' ⊢
   split at h'
   ·cases h'
   ·rename_i hl
    rw [if_neg hl]
    dsimp only
    unfold jC
    rw [if_pos ⟨hk,hn,hd,by rw [List.length_take];omega,by rw [List.length_take];omega⟩,Mp.get_put,if_pos rfl]
    dsimp only
    rw [if_pos ⟨rfl,rfl⟩]
  | some x =>
   rw [hg] at h'
   dsimp only at h' ⊢
   split at h'
   ·rename_i hx
    rw [if_pos hx]
    have hs:=hB.2 _ _ hg
    dsimp only
    unfold jC
    rw [if_pos ⟨hk,hn,hd,by omega,by omega⟩,hg]
    dsimp only
    rw [if_pos ⟨hx.1,rfl⟩,hx.2]
   ·cases h'
theorem GI {B:Bx} (hB:B.tX) {key:Bs} (hk:key.length=32) {e:En} {body:Bs} (h:(dh B key e body).1.2=0) :
  dz e=true∧body.length≤16000∧dQ (dh B key e body).2 key (dh B key e body).1.1=(e,body,0):=by
 unfold dh iO at h ⊢
 dsimp only at h ⊢
 by_cases he:dz e=true
 ·rw [if_pos he] at h ⊢
  by_cases hb:body.length≤16000
  ·rw [if_pos hb] at h ⊢
   rw [if_pos ⟨he,hb⟩]
   have hl:=pJ hb
   have hbl:=sW (aN body).length
   have hh:=mY (bT he)
   by_cases hq:(B.zi key (bR e.cnt) (dC e) (fQ body)).1.2=0
   ·rw [if_pos hq]
    refine ⟨he,hb,?_⟩
    dsimp only
    unfold dQ iP
    rw [IV e he]
    dsimp only
    rw [if_pos rfl,Bx.Nj hB hk (lC _) (by omega) (by omega) hq]
    dsimp only
    rw [if_pos rfl,E8 hb,if_pos rfl]
   ·rw [if_neg hq] at h
    exact absurd h hq
  ·rw [if_neg hb] at h
   cases h
 ·rw [if_neg he] at h
  cases h
structure jJ (m:Bs) (B:Bx) (F:Fs) (id:Nat) (r:aJ) (e:En) (body:Bs):Prop where
 text:∃ t,F.get (aS id r.ep r.cnt)=some t∧dQ B (nR m r.dom r.ep) t=(e,body,0)
 id:e.id=id
 dom:e.dom=r.dom
 ep:e.ep=r.ep
 cnt:e.cnt=r.cnt
theorem jJ.le {m:Bs} {B B2:Bx} {F:Fs} {id:Nat} {r:aJ} {e:En} {body:Bs} (h:jJ m B F id r e body) (hB:B.le B2):jJ m B2 F id r e body:=by
 obtain ⟨⟨t,h1,h2⟩,h3,h4,h5,h6⟩:=h
 exact ⟨⟨t,h1,GH hB h2⟩,h3,h4,h5,h6⟩
theorem jJ.get {m:Bs} {B:Bx} {F F2:Fs} {id:Nat} {r:aJ} {e:En} {body:Bs} (h:jJ m B F id r e body) (hF:F2.get (aS id r.ep r.cnt)=F.get (aS id r.ep r.cnt)):jJ m B F2 id r e body:=by
 obtain ⟨⟨t,h1,h2⟩,h3,h4,h5,h6⟩:=h
 exact ⟨⟨t,by rw [hF,h1],h2⟩,h3,h4,h5,h6⟩
structure Holds (m:Bs) (B:Bx) (F:Fs) (rows:Mn aJ) (last:Nat) (rg:Mp jF) (lf:List dK):Prop where
 sorted:F.Sorted
 index:∃ l,(F.get indexB).getD []=NW l∧(∀ p∈l,K5 p)∧fH l=(rows,last)
 ring:∃ l,(F.get bn).getD []=qZ l∧(∀ p∈l,wP p)∧iH l=rg
 led:(F.get dm).getD []=(lf.map dK.text).flatten∧∀ p∈lf,qa p
 Eu:∀ id r,rows.get id=some r→r.cnt<(bK (bG lf) (bH r.dom r.ep)).ceil
 right:∀ id r,rows.get id=some r→(∃ e body,jJ m B F id r e body)∧iJ rg r.dom r.ep=true
theorem nN (id n o:Nat):aS id n o≠indexB:=by simp [aS,indexB]
theorem tL (id n o:Nat):aS id n o≠bn:=by simp [aS,bn]
theorem mg (id n o:Nat):aS id n o≠dm:=by simp [aS,dm]
theorem Bh:indexB≠bn:=by decide
theorem xM:indexB≠dm:=by decide
theorem GJ:bn≠dm:=by decide
section
variable {m:Bs} {B B2:Bx} {F F2:Fs} {rows:Mn aJ} {last:Nat} {ring:Mp jF} {lf:List dK}
theorem Holds.le (h:Holds m B F rows last ring lf) (hB:B.le B2):Holds m B2 F rows last ring lf :=
 { h with right:=fun id r hr=>by obtain ⟨⟨e,body,ho⟩,hl⟩:=h.right id r hr;exact ⟨⟨e,body,ho.le hB⟩,hl⟩ }
theorem Holds.congr (h:Holds m B F rows last ring lf) (hs:F2.Sorted) (h1:(F2.get indexB).getD []=(F.get indexB).getD []) (h2:(F2.get bn).getD []=(F.get bn).getD []) (h3:(F2.get dm).getD []=(F.get dm).getD [])
  (hf:∀ id r,rows.get id=some r→F2.get (aS id r.ep r.cnt)=F.get (aS id r.ep r.cnt)):Holds m B F2 rows last ring lf where
 sorted:=hs
 index:=by rw [h1];exact h.index
 ring:=by rw [h2];exact h.ring
 led:=by rw [h3];exact h.led
 Eu:=h.Eu
 right:=fun id r hr=>by
  obtain ⟨⟨e,body,ho⟩,hl⟩:=h.right id r hr
  exact ⟨⟨e,body,ho.get (hf id r hr)⟩,hl⟩
theorem Holds.other (h:Holds m B F rows last ring lf) {k:Bs} (v:Bs) (h1:k≠indexB) (h2:k≠bn) (h3:k≠dm) (hf:∀ id r,rows.get id=some r→k=aS id r.ep r.cnt→F.get k=some v):Holds m B (F.put k v) rows last ring lf:=by
 refine h.congr (h.sorted.put k v) (by rw [aW,if_neg h1]) (by rw [aW,if_neg h2]) (by rw [aW,if_neg h3]) fun id r hr=>?_
 rw [aW]
 split
 ·rename_i e
  rw [← e]
  exact (hf id r hr e).symm
 ·rfl
theorem Holds.gone (h:Holds m B F rows last ring lf) {k:Bs} (h1:k≠indexB) (h2:k≠bn) (h3:k≠dm) (hf:∀ id r,rows.get id=some r→k≠aS id r.ep r.cnt):Holds m B (F.del k) rows last ring lf:=by
 refine h.congr (h.sorted.del k) (by rw [gI,if_neg (Ne.symm h1)]) (by rw [gI,if_neg (Ne.symm h2)]) (by rw [gI,if_neg (Ne.symm h3)]) fun id r hr=>?_
 rw [gI,if_neg (Ne.symm (hf id r hr))]
theorem Holds.ledger (h:Holds m B F rows last ring lf) {x:dK} (hx:qa x) (hc:(bK (bG lf) x.key).ceil≤x.ceil):Holds m B (F.put dm ((F.get dm).getD []++x.text)) rows last ring (lf++[x]) where
 sorted:=h.sorted.put _ _
 index:=by rw [aW,if_neg (Ne.symm xM)];exact h.index
 ring:=by rw [aW,if_neg (Ne.symm GJ)];exact h.ring
 led:=by
  refine ⟨by rw [aW,if_pos rfl,h.led.1];simp,fun p hp=>?_⟩
  simp only [List.mem_append,List.mem_singleton] at hp
  rcases hp with hp | rfl
  ·exact h.led.2 p hp
  ·exact hx
 Eu:=fun id r hr=>by
  have:=h.Eu id r hr
  rw [xF]
  split
  ·rename_i e
   rw [e] at hc
   exact Nat.lt_of_lt_of_le this hc
  ·exact this
 right:=fun id r hr=>by
  obtain ⟨⟨e,body,ho⟩,hl⟩:=h.right id r hr
  exact ⟨⟨e,body,ho.get (by rw [aW,if_neg (Ne.symm (mg _ _ _))])⟩,hl⟩
theorem gQ (M:Mn aJ) (id:Nat) (r:aJ) (j:Nat):(dU M id r).get j=if j=id then (if r.ep=0 then none else some r) else M.get j:=by
 unfold dU
 split
 ·rw [Mn.vI]
 ·rw [Mn.get_put]
  by_cases h:j=id
  ·rw [if_pos h,if_pos h.symm]
  ·rw [if_neg h,if_neg (Ne.symm h)]
theorem Holds.row (h:Holds m B F rows last ring lf) {id:Nat} {r:aJ} (hx:K5 (id,r)) (hc:r.ep≠0→r.cnt<(bK (bG lf) (bH r.dom r.ep)).ceil) (hr:r.ep≠0→(∃ e body,jJ m B F id r e body)∧iJ ring r.dom r.ep=true) :
  Holds m B (F.put indexB ((F.get indexB).getD []++bP id r)) (dU rows id r) (max last id) ring lf where
 sorted:=h.sorted.put _ _
 index:=by
  obtain ⟨l,h1,h2,h3⟩:=h.index
  refine ⟨l++[(id,r)],by rw [aW,if_pos rfl,h1,PZ];rfl,fun p hp=>?_,?_⟩
  ·simp only [List.mem_append,List.mem_singleton] at hp
   rcases hp with hp | rfl
   ·exact h2 p hp
   ·exact hx
  ·rw [wN,h3]
 ring:=by rw [aW,if_neg Bh];exact h.ring
 led:=by rw [aW,if_neg xM];exact h.led
 Eu:=fun j r2 hr2=>by
  rw [gQ] at hr2
  split at hr2
  ·split at hr2
   ·cases hr2
   ·rename_i h0
    cases hr2
    exact hc h0
  ·exact h.Eu j r2 hr2
 right:=fun j r2 hr2=>by
  have hne:∀ (n o:Nat),(F.put indexB ((F.get indexB).getD []++bP id r)).get (aS j n o)=F.get (aS j n o):=fun n o=>by rw [aW,if_neg (Ne.symm (nN _ _ _))]
  rw [gQ] at hr2
  split at hr2
  ·rename_i e
   split at hr2
   ·cases hr2
   ·rename_i h0
    cases hr2
    obtain ⟨⟨e2,body,ho⟩,hl⟩:=hr h0
    rw [e]
    rw [e] at hne
    exact ⟨⟨e2,body,ho.get (hne _ _)⟩,hl⟩
  ·obtain ⟨⟨e,body,ho⟩,hl⟩:=h.right j r2 hr2
   exact ⟨⟨e,body,ho.get (hne _ _)⟩,hl⟩
theorem Holds.state (h:Holds m B F rows last ring lf) {x:Bs} {s:jF} (hx:wP (x,s)) (hl:∀ id r,rows.get id=some r→iJ (ring.put x s) r.dom r.ep=true) :
  Holds m B (F.put bn ((F.get bn).getD []++bq x s)) rows last (ring.put x s) lf where
 sorted:=h.sorted.put _ _
 index:=by rw [aW,if_neg (Ne.symm Bh)];exact h.index
 ring:=by
  obtain ⟨l,h1,h2,h3⟩:=h.ring
  refine ⟨l++[(x,s)],by rw [aW,if_pos rfl,h1,JG];rfl,fun p hp=>?_,?_⟩
  ·simp only [List.mem_append,List.mem_singleton] at hp
   rcases hp with hp | rfl
   ·exact h2 p hp
   ·exact hx
  ·rw [Bg,h3]
 led:=by rw [aW,if_neg GJ];exact h.led
 Eu:=h.Eu
 right:=fun id r hr=>by
  obtain ⟨⟨e,body,ho⟩,_⟩:=h.right id r hr
  exact ⟨⟨e,body,ho.get (by rw [aW,if_neg (Ne.symm (tL _ _ _))])⟩,hl id r hr⟩
theorem GK:∀ (l:List Nh) (q:Mn aJ×Nat),(∀ id r,q.1.get id=some r→id≤q.2)→∀ id r,(l.foldl (fun q p=>(dU q.1 p.1 p.2,max q.2 p.1)) q).1.get id=some r→id≤(l.foldl (fun q p=>(dU q.1 p.1 p.2,max q.2 p.1)) q).2
 | [],q,h=>h
 | x::l,q,h=>GK l _ (fun id r hr=>by
  dsimp only at hr ⊢
  rw [gQ] at hr
  split at hr
  ·omega
  ·have:=h id r hr
   omega)
theorem Holds.below (h:Holds m B F rows last ring lf) {id:Nat} {r:aJ} (hr:rows.get id=some r):id≤last:=by
 obtain ⟨l,_,_,h3⟩:=h.index
 have:=GK l ([],0) (fun id r hr=>by simp [Mn.get] at hr) id r
 unfold fH at h3
 rw [h3] at this
 exact this hr
end
end
section
open Go.RowKit Go.Maps Go.Shelf
theorem Bi {D:Dk} {M:Mp pO} {step most:Nat} {x:Bs} (h:(aQ D M step most x).2.2.2=0):x.length≤300∧(bK M x).c<most∧(bK (aQ D M step most x).2.1 x).c=(bK M x).c+1:=by
 have put:∀ v:pO,bK (M.put x v) x=v:=fun v=>by unfold bK;rw [Mp.get_put,if_pos rfl];rfl
 unfold aQ at h ⊢
 split at h
 ·cases h
 ·rename_i h1
  rw [if_neg h1]
  split at h
  ·cases h
  ·rename_i h2
   rw [if_neg h2]
   split at h
   ·rename_i h3
    rw [if_pos h3]
    split at h
    ·rename_i h4
     exact absurd h h4
    ·rename_i h4
     rw [if_neg h4]
     exact ⟨by omega,by omega,by rw [put]⟩
   ·rename_i h3
    rw [if_neg h3]
    exact ⟨by omega,by omega,by rw [put]⟩
theorem GL (x:Bs) (n:Nat):(bH x n).length≤x.length+18:=by
 have h1:=aP x
 have h2:=aL n
 unfold bH
 rw [List.length_append]
 omega
section
variable {w0 w:World} {L:List aT} {P:nS} {c:Sc} {Q:Sq} {v:Value} {q:Nat}
theorem Nk (e:En) (body:Bs) (n:Nat) (hd:e.dom.length≤255) (hf:e.Fit) (h:bg c n Q) (hn:n≤990000) (E:Env w0) (HT:∀ (w':World) (X:List aT),Sp w0 [] w' (X++L)→iM w' v e.gz) (S:Sp w0 [] w (ae q (bQ e v) 40::ay P c Q L)) :
  Calls Tryz.prog 69 #[.pointer (some ⟨P.s,0,none⟩),.pointer (some ⟨q,0,none⟩),.string ⟨body.toArray⟩] w fun r w2=>∃ e2,((Q.aZ c e body).2.2=0→e2=Q.entry c e)∧r=.returned (.tuple #[.string ⟨(Q.aZ c e body).2.1.toArray⟩,.int .i64 (Q.aZ c e body).2.2])∧Sp w0 [] w2 (ae q (bQ { e2 with gz:=e.gz } v) 40::ay P c (Q.aZ c e body).1 L):=by
 have HV:Hid (Q.aZ c e body=_):=Lib.hid (Sq.aZ.eq_1 Q c e body)
 have K6:Hid (Q.entry c e={ e with ep:=Q.dV e.dom,cnt:=(bK (Q.next c e.dom).2.1 (bH e.dom (Q.dV e.dom))).c - 1 }):=rfl
 have hst:=jw h.ring e.dom
 have hne:=h.next e.dom
 have hok:=@Bi Q.D Q.led c.step c.most (bH e.dom (Q.dV e.dom))
 have hmo:=h.most
 unfold Sq.next at HV K6 hne
 unfold Sq.dV at HV K6 hne hok
 have hkl:=GL e.dom (ax Q.ring e.dom).now
 have Xd:=Lib.hid (fun (w':World) (K:List aT) (A B C D F G:aT) (S':Sp w0 [] w' (A::B::C::D::F::G::bz P.r P.d Q.ring::K))=>(jl e.dom ((Sp.pick [_,_,_,_,_,_,_] [6,0,1,2,3,4,5] (by decide) (S'))) (by unfold maxLen;omega)).mono (fun r w2 h=>(⟨h.1,(Sp.pick [_,_,_,_,_,_,_] [1,2,3,4,5,6,0] (by decide) (h.2))⟩:r=.returned (ax Q.ring e.dom).agg∧Sp w0 [] w2 (A::B::C::D::F::G::bz P.r P.d Q.ring::K))))
 have HRK:=Lib.hid (fun (w':World) (K:List aT) (S':Sp w0 [] w' K)=>PL e.dom (ax Q.ring e.dom).now S' (by omega) (by omega))
 have R6:=Lib.hid (fun (w':World) (K:List aT) (S':Sp w0 [] w' (dP P.l P.d c.step c.most Q.led::aF P.d Q.D::K))=>Ml (bH e.dom (ax Q.ring e.dom).now) n Q.D S' (by omega) (h.Cw (by omega)) h.step.2 h.most h.room (by omega))
 have Zw:=Lib.hid (fun (w':World) (K:List aT) (S':Sp w0 [] w' K)=>KY c.ai e.dom (ax Q.ring e.dom).now h.key hd S')
 have VN:=Lib.hid (rW c.ai e.dom (ax Q.ring e.dom).now)
 have Pn:Hid Q.B.ok:=h.box (by omega)
 have HNW:Hid ((ax Q.ring e.dom).now≤1000000):=hst.1
 have HD:Hid (¬ 255<e.dom.length):=by unfold Hid;omega
 have aeD:Hid ((bH e.dom (ax Q.ring e.dom).now).length≤300):=by unfold Hid;omega
 have HF:=Lib.hid hf
 have HE:=Lib.hid E
 have HTT:=Lib.hid HT
 have zD:=Lib.hid hok
 have HCM:=Lib.hid (Er hne.led (bH e.dom (ax Q.ring e.dom).now))
 have HLC:=Lib.hid (fun (w':World) (K:List aT) (S':Sp w0 [] w' (dP P.l P.d c.step c.most (aQ Q.D Q.led c.step c.most (bH e.dom (ax Q.ring e.dom).now)).2.1::K))=>yD (bH e.dom (ax Q.ring e.dom).now) S' (by unfold maxLen;omega))
 obtain ⟨va,vc,rfl⟩:=(HT w (ae q (bQ e v) 40::ay P c Q []) (by unfold ay at S ⊢;exact S)).form
 clear hst hne hok hmo hkl h hn E HT hf hd
 generalize Q.aZ c e body=so at *
 generalize Q.entry c e=en at *
 generalize (ax Q.ring e.dom)=st at *
 obtain ⟨nw,od⟩:=st
 dsimp only at *
 generalize bH e.dom nw=k1 at *
 generalize nR c.ai e.dom nw=k2 at *
 generalize aQ Q.D Q.led c.step c.most k1=N at *
 obtain ⟨D1,M1,aB,er⟩:=N
 dsimp only at *
 obtain ⟨xi,xd,xe,xc,xf,xr,xb,xn,xt⟩:=e
 dsimp only at *
 unfold bQ ay at S
 dsimp only at S
 have HS:=Lib.hid S
 clear S
 go_enter Tryz.func69,Tryz.ntmps69
 go_upto_region 1 with (fail)
 refine aM [0,1,2,3,4,5,6,7,8,9,10,11,12,13] (fun c=>c == 9 || c == 13) (fun c=>c == 13) (T:=fun wx=>(∀ jA,wx.cell? ⟨q,jA,none⟩=(#[.int .u64 xi,.string ⟨xd.toArray⟩,.int .u64 xe,.int .u64 xc,.string ⟨xf.1.toArray⟩,.string ⟨xf.2.toArray⟩,.slice va xr.length vc,.int .u64 xb,.int .u64 xn,.int .i64 xt])[jA]?)∧(∀ uy,wx.cell? ⟨P.s,uy,none⟩=(#[.pointer (some ⟨P.d,0,none⟩),.pointer (some ⟨P.b,0,none⟩),.string ⟨c.ai.toArray⟩,.pointer (some ⟨P.l,0,none⟩),.pointer (some ⟨P.r,0,none⟩),.map (some P.m),.int .u64 Q.last])[uy]?)) (S:=fun wx=>Sp w0 [] wx (ae q #[.int .u64 xi,.string ⟨xd.toArray⟩,.int .u64 xe,.int .u64 xc,.string ⟨xf.1.toArray⟩,.string ⟨xf.2.toArray⟩,.slice va xr.length vc,.int .u64 xb,.int .u64 xn,.int .i64 xt] 40::ae P.s (aA P c.ai Q.last) 90::aY 34 aJ.agg P.m Q.rows::aF P.d Q.D::jG P.b Q.B::dP P.l P.d c.step c.most Q.led::bz P.r P.d Q.ring::L)) (by kernel_rfl) (by kernel_rfl) (by kernel_rfl) HS.out.drew (fun x h=>⟨h.cell,h.ak.cell⟩) ?_
 repeat
  refine Exists.intro _ (And.intro rfl (Or.inl (Exists.intro ?_ (And.intro (fun wS hS K hK=>?_) (And.intro ?_ ?_)))))
  rotate_left 1
  ·obtain ⟨t0,t1⟩:=hS
   first
    | (refine ah rfl ?_;simp only [Act.put,List.setIfInBounds_toArray,List.set_cons_zero,List.set_cons_succ];exact hK.out)
    | (refine ag rfl ?_;go_simp;exact hK.out)
  ·rfl
 refine bC.one rfl rfl rfl (fun wS hS R hR=>?_)
 go_simp
 go_at_call 40
 refine (Xd.out _ _ _ _ _ _ _ _ hS).mono ?_
 rintro e w7 ⟨rfl,S7⟩
 refine hR.out _ _ rfl (fun wx=>(∀ jA,wx.cell? ⟨q,jA,none⟩=(#[.int .u64 xi,.string ⟨xd.toArray⟩,.int .u64 xe,.int .u64 xc,.string ⟨xf.1.toArray⟩,.string ⟨xf.2.toArray⟩,.slice va xr.length vc,.int .u64 xb,.int .u64 xn,.int .i64 xt])[jA]?)∧(∀ uy,wx.cell? ⟨P.s,uy,none⟩=(#[.pointer (some ⟨P.d,0,none⟩),.pointer (some ⟨P.b,0,none⟩),.string ⟨c.ai.toArray⟩,.pointer (some ⟨P.l,0,none⟩),.pointer (some ⟨P.r,0,none⟩),.map (some P.m),.int .u64 Q.last])[uy]?)) (fun wx=>Sp w0 [] wx (ae q #[.int .u64 xi,.string ⟨xd.toArray⟩,.int .u64 xe,.int .u64 xc,.string ⟨xf.1.toArray⟩,.string ⟨xf.2.toArray⟩,.slice va xr.length vc,.int .u64 xb,.int .u64 xn,.int .i64 xt] 40::ae P.s (aA P c.ai Q.last) 90::aY 34 aJ.agg P.m Q.rows::aF P.d Q.D::jG P.b Q.B::dP P.l P.d c.step c.most Q.led::bz P.r P.d Q.ring::L)) S7 (fun x h=>⟨h.cell,h.ak.cell⟩) (fun _ h=>h) ?_
 clear hR hS S7
 repeat
  refine Exists.intro _ (And.intro rfl (Or.inl (Exists.intro ?_ (And.intro (fun wS hS K hK=>?_) (And.intro ?_ ?_)))))
  rotate_left 1
  ·obtain ⟨t0,t1⟩:=hS
   first
    | (refine ah rfl ?_;simp only [Act.put,List.setIfInBounds_toArray,List.set_cons_zero,List.set_cons_succ];exact hK.out)
    | (refine ag rfl ?_;go_simp;exact hK.out)
  ·rfl
 refine bC.two rfl rfl rfl rfl (fun wS hS R hR=>?_)
 have c1:=hS.cell
 have f1:=hS.free
 have HP:=Lib.hid (hS.set (o:=2) (.int .u64 nw))
 go_simp
 refine hR.out _ _ rfl (fun wx=>True) (fun wx=>Sp w0 [] wx (ae q #[.int .u64 xi,.string ⟨xd.toArray⟩,.int .u64 nw,.int .u64 xc,.string ⟨xf.1.toArray⟩,.string ⟨xf.2.toArray⟩,.slice va xr.length vc,.int .u64 xb,.int .u64 xn,.int .i64 xt] 40::ae P.s (aA P c.ai Q.last) 90::aY 34 aJ.agg P.m Q.rows::aF P.d Q.D::jG P.b Q.B::dP P.l P.d c.step c.most Q.led::bz P.r P.d Q.ring::L)) HP.out (fun _ _=>trivial)  ?_
 clear hR
 repeat
  refine Exists.intro _ (And.intro rfl (Or.inl (Exists.intro ?_ (And.intro (fun wS hS K hK=>?_) (And.intro ?_ ?_)))))
  rotate_left 1
  ·have t0:=hS
   first
    | (refine ah rfl ?_;simp only [Act.put,List.setIfInBounds_toArray,List.set_cons_zero,List.set_cons_succ];exact hK.out)
    | (refine ag rfl ?_;go_simp;exact hK.out)
  ·rfl
 intro wE hE
 have aX:=Lib.hid hE
 clear hE
 clear HS Xd
 have HS:=Lib.hid aX.out
 clear aX
 go_upto_region 2 with (fail)
 refine aM [0,1,2,3,4,5,6,7,8,9] (fun c=>c == 8) (fun c=>false) (T:=fun wx=>(∀ jA,wx.cell? ⟨q,jA,none⟩=(#[.int .u64 xi,.string ⟨xd.toArray⟩,.int .u64 nw,.int .u64 xc,.string ⟨xf.1.toArray⟩,.string ⟨xf.2.toArray⟩,.slice va xr.length vc,.int .u64 xb,.int .u64 xn,.int .i64 xt])[jA]?)∧(∀ uy,wx.cell? ⟨P.s,uy,none⟩=(#[.pointer (some ⟨P.d,0,none⟩),.pointer (some ⟨P.b,0,none⟩),.string ⟨c.ai.toArray⟩,.pointer (some ⟨P.l,0,none⟩),.pointer (some ⟨P.r,0,none⟩),.map (some P.m),.int .u64 Q.last])[uy]?)) (S:=fun wx=>Sp w0 [] wx (ae q #[.int .u64 xi,.string ⟨xd.toArray⟩,.int .u64 nw,.int .u64 xc,.string ⟨xf.1.toArray⟩,.string ⟨xf.2.toArray⟩,.slice va xr.length vc,.int .u64 xb,.int .u64 xn,.int .i64 xt] 40::ae P.s (aA P c.ai Q.last) 90::aY 34 aJ.agg P.m Q.rows::aF P.d Q.D::jG P.b Q.B::dP P.l P.d c.step c.most Q.led::bz P.r P.d Q.ring::L)) (by kernel_rfl) (by kernel_rfl) (by kernel_rfl) HS.out.drew (fun x h=>⟨h.cell,h.ak.cell⟩) ?_
 repeat
  refine Exists.intro _ (And.intro rfl (Or.inl (Exists.intro ?_ (And.intro (fun wS hS K hK=>?_) (And.intro ?_ ?_)))))
  rotate_left 1
  ·obtain ⟨t0,t1⟩:=hS
   first
    | (refine ah rfl ?_;simp only [Act.put,List.setIfInBounds_toArray,List.set_cons_zero,List.set_cons_succ];exact hK.out)
    | (refine ag rfl ?_;go_simp;exact hK.out)
  ·rfl
 refine bC.one rfl rfl rfl (fun wS hS R hR=>?_)
 go_simp
 go_at_call 104
 refine (HRK.out _ _ hS).mono ?_
 rintro e w7 ⟨rfl,S7⟩
 refine hR.out _ _ rfl (fun wx=>(∀ jA,wx.cell? ⟨q,jA,none⟩=(#[.int .u64 xi,.string ⟨xd.toArray⟩,.int .u64 nw,.int .u64 xc,.string ⟨xf.1.toArray⟩,.string ⟨xf.2.toArray⟩,.slice va xr.length vc,.int .u64 xb,.int .u64 xn,.int .i64 xt])[jA]?)∧(∀ uy,wx.cell? ⟨P.s,uy,none⟩=(#[.pointer (some ⟨P.d,0,none⟩),.pointer (some ⟨P.b,0,none⟩),.string ⟨c.ai.toArray⟩,.pointer (some ⟨P.l,0,none⟩),.pointer (some ⟨P.r,0,none⟩),.map (some P.m),.int .u64 Q.last])[uy]?)) (fun wx=>Sp w0 [] wx (ae q #[.int .u64 xi,.string ⟨xd.toArray⟩,.int .u64 nw,.int .u64 xc,.string ⟨xf.1.toArray⟩,.string ⟨xf.2.toArray⟩,.slice va xr.length vc,.int .u64 xb,.int .u64 xn,.int .i64 xt] 40::ae P.s (aA P c.ai Q.last) 90::aY 34 aJ.agg P.m Q.rows::aF P.d Q.D::jG P.b Q.B::dP P.l P.d c.step c.most Q.led::bz P.r P.d Q.ring::L)) S7 (fun x h=>⟨h.cell,h.ak.cell⟩) (fun _ h=>h) ?_
 clear hR hS S7
 repeat
  refine Exists.intro _ (And.intro rfl (Or.inl (Exists.intro ?_ (And.intro (fun wS hS K hK=>?_) (And.intro ?_ ?_)))))
  rotate_left 1
  ·obtain ⟨t0,t1⟩:=hS
   first
    | (refine ah rfl ?_;simp only [Act.put,List.setIfInBounds_toArray,List.set_cons_zero,List.set_cons_succ];exact hK.out)
    | (refine ag rfl ?_;go_simp;exact hK.out)
  ·rfl
 intro wE hE
 have aX:=Lib.hid hE
 clear hE
 clear HS HRK
 have cs:=aX.out.ak.cell
 unfold aA at cs
 go_wp2_with fail
 have HZ:=(Sp.pick [_,_,_,_,_,_,_] [5,3,0,1,2,4,6] (by decide) (aX.out))
 refine (R6.out _ _ HZ).mono ?_
 rintro r w2 ⟨rfl,S⟩
 have HS:=Lib.hid ((Sp.pick [_,_,_,_,_,_,_] [2,3,4,1,5,0,6] (by decide) (S)))
 clear S HZ aX R6 cs
 by_cases he:er=0
 rotate_left 1
 ·have hb:(er != 0)=true:=by simpa using he
  have gq:Hid (so=({ Q with D:=D1,led:=M1 },[],er)):=by unfold Hid;rw [HV.out,if_pos he]
  have HNZ:=Lib.hid he
  clear he HV K6 zD
  go_wp2_with fail
  go_ret2
  rw [gq.out]
  exact ⟨⟨xi,xd,nw,xc,xf,xr,xb,xn,xt⟩,fun h0=>absurd h0 HNZ.out,rfl,HS.out⟩
 subst he
 obtain ⟨hk1,hk2,hk3⟩:=zD.out rfl
 have hcm:=HCM.out
 obtain ⟨k,hk⟩:∃ k,(bK M1 k1).c=k+1:=⟨_,hk3⟩
 rw [hk] at K6 HLC hcm
 have hkb:(k:Int)+1<1099511627777:=by omega
 have R7:Hid (k<18446744073709551616):=by unfold Hid;omega
 have hsub:(((k+1:Nat):Int) - 1) % 18446744073709551616=(k:Int):=by omega
 have Yl:Hid (en=⟨xi,xd,nw,k,xf,xr,xb,xn,xt⟩):=by unfold Hid;rw [K6.out];rfl
 rw [if_neg (by simp),if_neg HD.out] at HV
 clear hk hk1 hk2 hk3 hcm zD HCM K6 hkb HD
 have c0:=HS.out.cell
 have f0:=HS.out.free
 have cs:=HS.out.ak.cell
 unfold aA at cs
 have HS2:=Lib.hid (HS.out.set (o:=3) (.int .u64 k))
 simp only [List.setIfInBounds_toArray,List.set_cons_zero,List.set_cons_succ] at HS2
 go_wp2_with fail
 have HZ:=(Sp.pick [_,_,_,_,_,_,_] [5,0,1,2,3,4,6] (by decide) (HS.out))
 refine (HLC.out _ _ HZ).mono ?_
 rintro r w3 ⟨rfl,rfl⟩
 clear HZ
 go_upto_region 7 with (fail)
 clear HS c0 f0 cs hsub HLC
 generalize w2.setCell _ _=w4 at *
 refine aM [0,1,2,3,4,5,6,7,8,9,10,11,12,13,14,15,16,17] (fun c=>c == 12) (fun c=>false) (T:=fun wx=>(∀ jA,wx.cell? ⟨q,jA,none⟩=(#[.int .u64 xi,.string ⟨xd.toArray⟩,.int .u64 nw,.int .u64 k,.string ⟨xf.1.toArray⟩,.string ⟨xf.2.toArray⟩,.slice va xr.length vc,.int .u64 xb,.int .u64 xn,.int .i64 xt])[jA]?)∧(∀ uy,wx.cell? ⟨P.s,uy,none⟩=(#[.pointer (some ⟨P.d,0,none⟩),.pointer (some ⟨P.b,0,none⟩),.string ⟨c.ai.toArray⟩,.pointer (some ⟨P.l,0,none⟩),.pointer (some ⟨P.r,0,none⟩),.map (some P.m),.int .u64 Q.last])[uy]?)) (S:=fun wx=>Sp w0 [] wx (ae q #[.int .u64 xi,.string ⟨xd.toArray⟩,.int .u64 nw,.int .u64 k,.string ⟨xf.1.toArray⟩,.string ⟨xf.2.toArray⟩,.slice va xr.length vc,.int .u64 xb,.int .u64 xn,.int .i64 xt] 40::ae P.s (aA P c.ai Q.last) 90::aY 34 aJ.agg P.m Q.rows::aF P.d D1::jG P.b Q.B::dP P.l P.d c.step c.most M1::bz P.r P.d Q.ring::L)) (by kernel_rfl) (by kernel_rfl) (by kernel_rfl) HS2.out.drew (fun x h=>⟨h.cell,h.ak.cell⟩) ?_
 repeat
  refine Exists.intro _ (And.intro rfl (Or.inl (Exists.intro ?_ (And.intro (fun wS hS K hK=>?_) (And.intro ?_ ?_)))))
  rotate_left 1
  ·obtain ⟨t0,t1⟩:=hS
   first
    | (refine ah rfl ?_;simp only [Act.put,List.setIfInBounds_toArray,List.set_cons_zero,List.set_cons_succ];exact hK.out)
    | (refine ag rfl ?_;go_simp;exact hK.out)
  ·rfl
 refine bC.one rfl rfl rfl (fun wS hS R hR=>?_)
 go_simp
 go_at_call 75
 refine (Zw.out _ _ hS).mono ?_
 rintro e w7 ⟨rfl,S7⟩
 refine hR.out _ _ rfl (fun wx=>(∀ jA,wx.cell? ⟨q,jA,none⟩=(#[.int .u64 xi,.string ⟨xd.toArray⟩,.int .u64 nw,.int .u64 k,.string ⟨xf.1.toArray⟩,.string ⟨xf.2.toArray⟩,.slice va xr.length vc,.int .u64 xb,.int .u64 xn,.int .i64 xt])[jA]?)∧(∀ uy,wx.cell? ⟨P.s,uy,none⟩=(#[.pointer (some ⟨P.d,0,none⟩),.pointer (some ⟨P.b,0,none⟩),.string ⟨c.ai.toArray⟩,.pointer (some ⟨P.l,0,none⟩),.pointer (some ⟨P.r,0,none⟩),.map (some P.m),.int .u64 Q.last])[uy]?)) (fun wx=>Sp w0 [] wx (ae q #[.int .u64 xi,.string ⟨xd.toArray⟩,.int .u64 nw,.int .u64 k,.string ⟨xf.1.toArray⟩,.string ⟨xf.2.toArray⟩,.slice va xr.length vc,.int .u64 xb,.int .u64 xn,.int .i64 xt] 40::ae P.s (aA P c.ai Q.last) 90::aY 34 aJ.agg P.m Q.rows::aF P.d D1::jG P.b Q.B::dP P.l P.d c.step c.most M1::bz P.r P.d Q.ring::L)) S7 (fun x h=>⟨h.cell,h.ak.cell⟩) (fun _ h=>h) ?_
 clear hR hS S7
 repeat
  refine Exists.intro _ (And.intro rfl (Or.inl (Exists.intro ?_ (And.intro (fun wS hS K hK=>?_) (And.intro ?_ ?_)))))
  rotate_left 1
  ·obtain ⟨t0,t1⟩:=hS
   first
    | (refine ah rfl ?_;simp only [Act.put,List.setIfInBounds_toArray,List.set_cons_zero,List.set_cons_succ];exact hK.out)
    | (refine ag rfl ?_;go_simp;exact hK.out)
  ·rfl
 intro wE hE
 have aX:=Lib.hid hE
 clear hE
 clear HS2 Zw
 have HS:=Lib.hid aX.out
 clear aX
 rw [Yl.out] at HV
 have MU:Hid (∀ (w':World),Sp w0 [] w' (ae q #[.int .u64 xi,.string ⟨xd.toArray⟩,.int .u64 nw,.int .u64 k,.string ⟨xf.1.toArray⟩,.string ⟨xf.2.toArray⟩,.slice va xr.length vc,.int .u64 xb,.int .u64 xn,.int .i64 xt] 40::ae P.s (aA P c.ai Q.last) 90::aY 34 aJ.agg P.m Q.rows::aF P.d D1::jG P.b Q.B::dP P.l P.d c.step c.most M1::bz P.r P.d Q.ring::L)→Calls Tryz.prog 107 #[.pointer (some ⟨P.b,0,none⟩),.string ⟨k2.toArray⟩,.agg #[.int .u64 xi,.string ⟨xd.toArray⟩,.int .u64 nw,.int .u64 k,.string ⟨xf.1.toArray⟩,.string ⟨xf.2.toArray⟩,.slice va xr.length vc,.int .u64 xb,.int .u64 xn,.int .i64 xt],.string ⟨body.toArray⟩] w' fun r w2=>r=.returned (.tuple #[.string ⟨(dh Q.B k2 ⟨xi,xd,nw,k,xf,xr,xb,xn,xt⟩ body).1.1.toArray⟩,.int .i64 (dh Q.B k2 ⟨xi,xd,nw,k,xf,xr,xb,xn,xt⟩ body).1.2])∧Sp w0 [] w2 (ae q #[.int .u64 xi,.string ⟨xd.toArray⟩,.int .u64 nw,.int .u64 k,.string ⟨xf.1.toArray⟩,.string ⟨xf.2.toArray⟩,.slice va xr.length vc,.int .u64 xb,.int .u64 xn,.int .i64 xt] 40::ae P.s (aA P c.ai Q.last) 90::aY 34 aJ.agg P.m Q.rows::aF P.d D1::jG P.b (dh Q.B k2 ⟨xi,xd,nw,k,xf,xr,xb,xn,xt⟩ body).2::dP P.l P.d c.step c.most M1::bz P.r P.d Q.ring::L)):=fun w' S' =>
  (Tu Q.B ⟨xi,xd,nw,k,xf,xr,xb,xn,xt⟩ k2 body HE.out { HF.out with ep:=by have:=HNW.out;dsimp only;omega,cnt:=R7.out } VN.out Pn.out (HTT.out w' [_,_,_,_,_,_,_] S') ((Sp.pick [_,_,_,_,_,_,_] [4,0,1,2,3,5,6] (by decide) (S')))).mono (fun r w2 h=>⟨h.1,(Sp.pick [_,_,_,_,_,_,_] [1,2,3,4,0,5,6] (by decide) (h.2))⟩)
 have HVX:Hid (so=({ Q with D:=D1,led:=M1,B:=(dh Q.B k2 ⟨xi,xd,nw,k,xf,xr,xb,xn,xt⟩ body).2 },(dh Q.B k2 ⟨xi,xd,nw,k,xf,xr,xb,xn,xt⟩ body).1.1,(dh Q.B k2 ⟨xi,xd,nw,k,xf,xr,xb,xn,xt⟩ body).1.2)):=HV.out
 clear HV
 generalize dh Q.B k2 ⟨xi,xd,nw,k,xf,xr,xb,xn,xt⟩ body=sl at *
 obtain ⟨⟨tx,er⟩,B2⟩:=sl
 dsimp only at *
 go_upto_region 10 with (fail)
 refine aM [0,1,2,3,4,5,6,7,8,9,10,11,12,13] (fun c=>c == 9) (fun c=>false) (T:=fun wx=>(∀ jA,wx.cell? ⟨q,jA,none⟩=(#[.int .u64 xi,.string ⟨xd.toArray⟩,.int .u64 nw,.int .u64 k,.string ⟨xf.1.toArray⟩,.string ⟨xf.2.toArray⟩,.slice va xr.length vc,.int .u64 xb,.int .u64 xn,.int .i64 xt])[jA]?)∧(∀ uy,wx.cell? ⟨P.s,uy,none⟩=(#[.pointer (some ⟨P.d,0,none⟩),.pointer (some ⟨P.b,0,none⟩),.string ⟨c.ai.toArray⟩,.pointer (some ⟨P.l,0,none⟩),.pointer (some ⟨P.r,0,none⟩),.map (some P.m),.int .u64 Q.last])[uy]?)) (S:=fun wx=>Sp w0 [] wx (ae q #[.int .u64 xi,.string ⟨xd.toArray⟩,.int .u64 nw,.int .u64 k,.string ⟨xf.1.toArray⟩,.string ⟨xf.2.toArray⟩,.slice va xr.length vc,.int .u64 xb,.int .u64 xn,.int .i64 xt] 40::ae P.s (aA P c.ai Q.last) 90::aY 34 aJ.agg P.m Q.rows::aF P.d D1::jG P.b Q.B::dP P.l P.d c.step c.most M1::bz P.r P.d Q.ring::L)) (by kernel_rfl) (by kernel_rfl) (by kernel_rfl) HS.out.drew (fun x h=>⟨h.cell,h.ak.cell⟩) ?_
 repeat
  refine Exists.intro _ (And.intro rfl (Or.inl (Exists.intro ?_ (And.intro (fun wS hS K hK=>?_) (And.intro ?_ ?_)))))
  rotate_left 1
  ·obtain ⟨t0,t1⟩:=hS
   first
    | (refine ah rfl ?_;simp only [Act.put,List.setIfInBounds_toArray,List.set_cons_zero,List.set_cons_succ];exact hK.out)
    | (refine ag rfl ?_;go_simp;exact hK.out)
  ·rfl
 refine bC.one rfl rfl rfl (fun wS hS R hR=>?_)
 go_simp
 go_at_call 107
 refine (MU.out _ hS).mono ?_
 rintro e w7 ⟨rfl,S7⟩
 refine hR.out _ _ rfl (fun wx=>(∀ jA,wx.cell? ⟨q,jA,none⟩=(#[.int .u64 xi,.string ⟨xd.toArray⟩,.int .u64 nw,.int .u64 k,.string ⟨xf.1.toArray⟩,.string ⟨xf.2.toArray⟩,.slice va xr.length vc,.int .u64 xb,.int .u64 xn,.int .i64 xt])[jA]?)∧(∀ uy,wx.cell? ⟨P.s,uy,none⟩=(#[.pointer (some ⟨P.d,0,none⟩),.pointer (some ⟨P.b,0,none⟩),.string ⟨c.ai.toArray⟩,.pointer (some ⟨P.l,0,none⟩),.pointer (some ⟨P.r,0,none⟩),.map (some P.m),.int .u64 Q.last])[uy]?)) (fun wx=>Sp w0 [] wx (ae q #[.int .u64 xi,.string ⟨xd.toArray⟩,.int .u64 nw,.int .u64 k,.string ⟨xf.1.toArray⟩,.string ⟨xf.2.toArray⟩,.slice va xr.length vc,.int .u64 xb,.int .u64 xn,.int .i64 xt] 40::ae P.s (aA P c.ai Q.last) 90::aY 34 aJ.agg P.m Q.rows::aF P.d D1::jG P.b B2::dP P.l P.d c.step c.most M1::bz P.r P.d Q.ring::L)) S7 (fun x h=>⟨h.cell,h.ak.cell⟩) (fun _ h=>h) ?_
 clear hR hS S7
 repeat
  refine Exists.intro _ (And.intro rfl (Or.inl (Exists.intro ?_ (And.intro (fun wS hS K hK=>?_) (And.intro ?_ ?_)))))
  rotate_left 1
  ·obtain ⟨t0,t1⟩:=hS
   first
    | (refine ah rfl ?_;simp only [Act.put,List.setIfInBounds_toArray,List.set_cons_zero,List.set_cons_succ];exact hK.out)
    | (refine ag rfl ?_;go_simp;exact hK.out)
  ·rfl
 intro wE hE
 have aX:=Lib.hid hE
 clear hE
 go_wp2_with fail
 go_ret2
 rw [HVX.out]
 exact ⟨⟨xi,xd,nw,k,xf,xr,xb,xn,xt⟩,fun _=>Yl.out.symm,rfl,aX.out⟩
end
end
end Go.Proofs.YtangbdahnmomlaaGreatDoor
