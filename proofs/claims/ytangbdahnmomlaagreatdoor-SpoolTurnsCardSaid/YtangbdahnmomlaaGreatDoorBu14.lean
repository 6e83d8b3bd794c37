/- From the rows' condition (what Go's variables hold when the call begins) to what the walks ask. No condition. disk, plainly: a disk with one file -/
import Derived.ArgAppend
import Derived.Deep.AppendSrc
import Derived.Deep.Grids
import Derived.Deep.Strs
import Derived.Deep.Upon
import Derived.Handed
import Derived.LaidLaws
import Derived.LaidMore
import Derived.Lay
import Derived.Lib.SmallJoins
import Derived.OpenShut
import Derived.ProofKit
import Derived.Shelf.Vars
import Derived.Stop.Joined
import Derived.Test.YtangbdahnmomlaaGreatDoorBu02
import Derived.Test.YtangbdahnmomlaaGreatDoorBu04
import Derived.Test.YtangbdahnmomlaaGreatDoorBu11
import Derived.Test.YtangbdahnmomlaaGreatDoorBu13
set_option linter.unnecessarySimpa false
set_option linter.unusedSimpArgs false
set_option linter.unusedVariables false
namespace Go.Proofs.YtangbdahnmomlaaGreatDoor
section
open Go.ChangeShapes Go.WideShapes Go.ChangeAt Go.RowKit
def AJ:List (String×DataW Unit):=[("math/bits.deBruijn32tab",Rows.laid_math_bits_deBruijn32tab),("math/bits.deBruijn64tab",Rows.laid_math_bits_deBruijn64tab),("internal/strconv.uint64pow10",Rows.laid_internal_strconv_uint64pow10),("unicode/utf8.acceptRanges",Rows.laid_unicode_utf8_acceptRanges),("unicode/utf8.first",Rows.laid_unicode_utf8_first)]
theorem OV:ownKnob Tryz.prog.godebug=none:=by kernel_rfl
theorem aaf:Tryz.prog.globalNamed "internal/strconv.uint64pow10" = some 0:=by kernel_rfl
theorem aag:(Tryz.prog.globals[0]?).map (·.type)=some 248:=by kernel_rfl
theorem aah:Tryz.prog.cellsOf 248=20:=by kernel_rfl
theorem aai:Tryz.prog.cellsOf 34=1:=by kernel_rfl
theorem aaj {H:Type}:(Rows.laid_internal_strconv_uint64pow10:DataW H)=Lib.tabData .u64 Lib.pow10Tab:=by rfl
theorem DY {W:World} (hsh:W.ShapedOpen Tryz.prog):∃ m,W.cell? ⟨1,0,none⟩=some (.int .i64 m) :=
 cell_of_shapedOpen_int (t:=3) (zero:=#[.int .i64 0]) hsh (of_decide_eq_true (by kernel_rfl)) (by kernel_rfl) rfl (by kernel_rfl) (by kernel_rfl) Tryz.underlying3
theorem FR {W:World} (h:laidMetH Tryz.prog AJ W) (hsh:W.ShapedOpen Tryz.prog):Env W:=by
 rw [MakeChecks.laidMetH_plain _ _ _ (by kernel_rfl)] at h
 obtain ⟨ps,⟨g0,t0,cs0,f0,p0,q0,hg0,ht0,hv0,hd0,⟨g1,t1,cs1,f1,p1,q1,hg1,ht1,hv1,hd1,⟨g2,t2,cs2,f2,p2,q2,hg2,ht2,hv2,hd2,⟨g3,t3,cs3,f3,p3,q3,hg3,ht3,hv3,hd3,⟨g4,t4,cs4,f4,p4,q4,hg4,ht4,hv4,hd4,_,_⟩,_⟩,_⟩,_⟩,_⟩,_⟩:=h
 obtain rfl:=Option.some.inj (aaf.symm.trans hg2)
 obtain rfl:=Option.some.inj (aag.symm.trans ht2)
 refine ⟨?_,DY hsh⟩
 ·rw [aaj] at hd2
  unfold Lib.TabIs
  rw [hv2,← Lib.cells_of_tab Tryz.underlying248 Tryz.underlying34 aai aah hd2]
theorem OW (os:Os) (args:Array Value):laidMetH Tryz.prog AJ ((World.laidAll Tryz.prog os AJ).forCall (fun _ _=>0) ⟨#[],args,[]⟩).memory:=by
 rw [MakeChecks.laidMetH_plain _ _ _ (by kernel_rfl)]
 exact laidMet_laidAll _ (by kernel_rfl) (by kernel_rfl)
theorem FT {H:Type} {enc:TypeId×Value→H} {a:Assume} {C:Checked} {os:Os} {f:FuncId} {fn:Func} {s:ChangeSpec} {conds:List PathCond} {apart fresh handsOn again:Bool} {X:World→Array Value→Prop}
  (hX:∀ (w w':World) (args:Array Value),w.heap=w'.heap→X w args→X w' args)
  (own:ownKnob C.prog.godebug=none) (started:os.Started) (noInit:C.prog.inits.idxOf? f=none) (hfn:C.prog.funcs[f]? = some fn)
  (witness:∃ (w:World) (tape:Tape) (i:Input),w.os=os∧(w.forCall tape i).Shaped C.prog∧i.vars=[]∧Input.okWide C.prog (w.forCall tape i) .any w.heap.size f i ∧
   ((s.pre enc C.prog fn conds apart (w.forCall tape i).memory i.args∧X (w.forCall tape i).memory i.args)∧sizedMet enc C.prog fn (OpenSpec.ofChange s) apart (w.forCall tape i).memory i.args)∧a.holds C.prog (lone (Frame.enter C.prog f i.args .normal) [] (w.forCall tape i)))
  (contract:∀ (W:World) (base:Nat) (args:Array Value) (ds gs:List (DataW H)) (before:List MemPlace),
   (∀ (j:Nat) t v,fn.params[j]? = some t→args[j]? = some v→Value.okWide C.prog W .any base t v) →
   DataW.Whole enc C.prog fn.params.toList s.vars apart W args.toList ds gs before →
   conds.all (PathCond.test C.prog ⟨fn.params.toList,ds,s.plain.varTypes C.prog,gs⟩)=true →
   X W args→W.ShapedOpen C.prog →
   Calls C.prog f args W fun e W'=>∃ v,e=.returned v∧s.post enc C.prog fn apart fresh handsOn again W args v W') :
  ReturnsInHanded a C os f .any (fun w args=>(s.pre enc C.prog fn conds apart w args∧X w args)∧sizedMet enc C.prog fn (OpenSpec.ofChange s) apart w args) (s.post enc C.prog fn apart fresh handsOn again):=by
 refine returnsInHanded_of_calls own started noInit witness ?_
 intro w tape i _ hsh _ hok hpre hholds
 obtain ⟨_,_,_,fn',hfn',_,_,_,_,hval⟩:=hok
 have e:fn'=fn:=Option.some.inj (hfn'.symm.trans hfn)
 subst e
 obtain ⟨⟨⟨ds,gs,before,hw,hc⟩,hx⟩,hz⟩:=hpre
 have hw':=DataW.Whole.of_heap (w':=w.forCall tape i) (by rfl) hw
 refine (contract (w.forCall tape i) w.heap.size i.args ds gs before hval hw' hc (hX _ _ _ (by rfl) hx) hsh).mono fun e W' ⟨v,he,hp⟩=>?_
 subst he
 exact ChangeSpec.post_blind hp
end
section
open Go.RowKit Go.Maps
def dA (D:Dk) (nm row:Bs):Dk×Int:=if (D.append nm row).2≠0 then D.append nm row else (D.append nm row).1.sync
end
section
open Go.RowKit Go.Maps
theorem DZ (x:dK) (rest:Bs) (h:qa x):cK ⟨x.text++rest,false⟩=(x,true,⟨rest,false⟩):=by
 obtain ⟨key,ceil⟩:=x
 obtain ⟨h1,h2⟩:=h
 dsimp only at h1 h2
 have l1:=aP key
 have l2:=aL ceil
 have e1:=iD (aN key++bJ ceil) 600 rest (by simp only [List.length_append];omega) (by simp only [List.length_append];omega)
 have e2:=iD key 300 (bJ ceil) (by omega) h1
 have e3:=gT ceil 1099511627776 [] (by omega) h2
 rw [List.append_nil] at e3
 have hne:(aN key++bJ ceil).isEmpty=false:=by simp [aN,bJ]
 unfold cK iZ dK.text
 simp only [e1,e2,e3,hne]
 rfl
theorem I9 (l:List dK) (h:∀ p∈l,qa p):fT (l.map dK.text).flatten=l∧eO (l.map dK.text).flatten=[]:=by
 induction l with
 | nil=>exact vQ (by decide)
 | cons p r ih =>
  obtain ⟨i1,i2⟩:=ih (fun q hq=>h q (by simp [hq]))
  have hb:=DZ p (r.map dK.text).flatten (h p (by simp))
  rw [List.map_cons,List.flatten_cons]
  have h1:=vP (s:=p.text++(r.map dK.text).flatten) (by rw [hb])
  rw [hb] at h1
  dsimp only at h1
  rw [h1.1,h1.2,i1,i2]
  exact ⟨rfl,rfl⟩
theorem rP (M:Mp pO) (k:Bs) (c:pO) (j:Bs):bK (M.put k c) j=if k=j then c else bK M j:=by
 unfold bK
 rw [Mp.get_put]
 split <;> rfl
theorem xF (l:List dK) (x:dK) (j:Bs):bK (bG (l++[x])) j=if x.key=j then ⟨x.ceil,x.ceil⟩ else bK (bG l) j:=by
 rw [vR,rP]
theorem vS (l:List dK) (j:Bs):(bK (bG l) j).c=(bK (bG l) j).ceil:=by
 have:∀ (r:List dK),∀ l',l=l'++r→(bK (bG l') j).c=(bK (bG l') j).ceil→(bK (bG (l'++r)) j).c=(bK (bG (l'++r)) j).ceil:=by
  intro r
  induction r with
  | nil=>intro l' _ h;simpa using h
  | cons x r ih =>
   intro l' e h
   have:=ih (l'++[x]) (by simpa using e) (by rw [xF];split <;> first | rfl | exact h)
   simpa using this
 simpa using this l [] rfl rfl
end
section
open Go.RowKit Go.Maps
def Fs.Sorted (F:Fs):Prop:=F.Pairwise fun p q=>bytesBefore p.1 q.1=true
theorem before_trans {a b c:Bs} (h1:bytesBefore a b=true) (h2:bytesBefore b c=true):bytesBefore a c=true:=by
 rw [jd,decide_eq_true_eq] at *
 exact List.lt_trans h1 h2
theorem before_total {a b:Bs} (h:bytesBefore a b=false) (hne:a≠b):bytesBefore b a=true:=by
 rw [jd,decide_eq_false_iff_not] at h
 rw [jd,decide_eq_true_eq]
 exact Decidable.byContradiction fun hn=>hne (List.le_antisymm (List.not_lt.1 hn) (List.not_lt.1 h))
theorem AL {x:Bs×Bs}:∀ {F:Fs},F.Sorted→(∀ p∈F,p.1≠x.1)→(Fs.ins x F).Sorted
 | [],_,_=>by simp [Fs.ins,Fs.Sorted]
 | y::r,h,hx=>by
  unfold Fs.Sorted at h
  rw [List.pairwise_cons] at h
  unfold Fs.ins
  split
  ·rename_i hb
   refine List.Pairwise.cons (fun p hp=>?_) (List.Pairwise.cons h.1 h.2)
   rcases List.mem_cons.1 hp with rfl | hp
   ·exact hb
   ·exact before_trans hb (h.1 p hp)
  ·rename_i hb
   refine List.Pairwise.cons (fun p hp=>?_) (AL h.2 (fun p hp=>hx p (by simp [hp])))
   rcases nX.1 hp with rfl | hp
   ·exact before_total (by simpa using hb) (fun e=>hx y (by simp) e.symm)
   ·exact h.1 p hp
theorem Fs.Sorted.del {F:Fs} (h:F.Sorted) (k:Bs):(F.del k).Sorted:=List.Pairwise.filter _ h
theorem Fs.Sorted.put {F:Fs} (h:F.Sorted) (k v:Bs):(F.put k v).Sorted:=AL (h.del k) (fun _ hp=>(RF.1 hp).2)
theorem KC {F:Fs} {k:Bs}:F.has k=true↔∃ p∈F,p.1=k:=by
 unfold Fs.has
 rw [List.any_eq_true]
 simp
structure kg (Q:Fs→Prop) (D:Dk):Prop where
 all:∀ k,Q (D.replay k)
 now:D.now=D.replay D.pend.length
theorem Ja (D:Dk) {k:Nat} (h:D.pend.length≤k):D.replay k=D.replay D.pend.length:=by
 unfold Dk.replay
 rw [List.take_of_length_le h,List.take_of_length_le (Nat.le_refl _)]
theorem FU (D:Dk) (e:Ev) (k:Nat) (hk:k≤D.pend.length) (D2:Dk) (hs:D2.sure=D.sure) (hp:D2.pend=D.pend++[e]):D2.replay k=D.replay k:=by
 unfold Dk.replay
 rw [hs,hp,List.take_append_of_le_length hk]
theorem yE (D:Dk) (e:Ev) (D2:Dk) (hs:D2.sure=D.sure) (hp:D2.pend=D.pend++[e]):D2.replay D2.pend.length=(D.replay D.pend.length).did e:=by
 unfold Dk.replay
 rw [List.take_of_length_le (Nat.le_refl _),List.take_of_length_le (Nat.le_refl _),hs,hp,List.foldl_append]
 rfl
theorem kg.good {Q:Fs→Prop} {D:Dk} (h:kg Q D):Q D.now:=by rw [h.now];exact h.all _
theorem kg.done {Q:Fs→Prop} {D:Dk} (h:kg Q D) (e:Ev) (hq:e.op≠5→Q (D.now.did e)):kg Q (D.done e).1:=by
 unfold Dk.done
 split
 ·exact ⟨h.all,h.now⟩
 ·split
  ·exact ⟨fun k=>by simpa [Dk.replay] using h.good,by simp [Dk.replay]⟩
  ·rename_i h5
   have key:∀ D2:Dk,D2.sure=D.sure→D2.pend=D.pend++[e]→D2.now=D.now.did e→kg Q D2:=by
    intro D2 h1 h2 h3
    refine ⟨fun k=>?_,?_⟩
    ·by_cases hk:k≤D.pend.length
     ·rw [FU D e k hk D2 h1 h2];exact h.all k
     ·rw [Ja D2 (by rw [h2];simp;omega),yE D e D2 h1 h2,← h.now];exact hq h5
    ·rw [yE D e D2 h1 h2,← h.now,h3]
   exact key _ rfl rfl rfl
end
section
open Go.RowKit Go.Maps
theorem FV {P:Program} {k b n:Nat} {w w2:World} {D:DataW Value} {G:List Nat} (h:w.ownsMap P k fJ b n D) (hx:Ext G w w2) (hb:b∉G):w2.ownsMap P k fJ b n D:=by
 obtain ⟨es,clock,hh,rest⟩:=h
 exact ⟨es,clock,hx.heap hh hb,rest⟩
abbrev ik (k b n:Nat) (D:DataW Value):aT where
 holds:=fun F w=>F=[b]∧w.ownsMap Tryz.prog k fJ b n D
 keeps:=fun h hx hd=>⟨h.1,FV h.2 hx (hd b (by simp [h.1]))⟩
 inside:=fun h x hx=>by
  rw [h.1,List.mem_singleton] at hx
  rw [hx]
  exact World.ownsMap.lt h.2
section
variable {t k e b n:Nat} {w0 w:World} {F0:List Nat} {L:List aT} {D:DataW Value}
theorem Sp.XO (S:Sp w0 F0 w (ik k b n D::L)):w.ownsMap Tryz.prog k fJ b n D:=by
 obtain ⟨F,⟨rfl,h⟩,_⟩:=S.take
 exact h
theorem Sp.OX (S:Sp w0 F0 w L) (k:TypeId):Sp w0 F0 (w.alloc (.map #[] 0)) (ik k w.heap.size 0 (.map [])::L) :=
 S.gain (G:=[w.heap.size]) ((Ext.refl [] w).alloc _) ⟨rfl,World.ownsMap_made w Tryz.prog k fJ⟩ (by simp)
theorem Sp.KD (S:Sp w0 F0 w (ik k b n D::L)) (hk:Keyed Tryz.prog k) (ht:Tryz.prog.underlying t=some (.map k e)) (hn:n<maxLen) {key:Value} {x:Lit} (hx:keyOf Tryz.prog k key=some x) (v:Value) :
  ∃ w2,(Instr.mapUpdate t (.map (some b)) key v).run Tryz.prog w=.ok () w2∧Sp w0 F0 w2 (ik k b (n+1) (D.put x (.held v))::L)∧w2.heap.size=w.heap.size:=by
 obtain ⟨w2,h1,h2,h3⟩:=S.XO.store hk ht hn hx (val:=v) (d:=.held v) (ps:=[]) rfl
 have h4:=kP h3
 obtain ⟨F,⟨rfl,_⟩,g⟩:=S.take
 exact ⟨w2,h1,g _ _ [b] ⟨rfl,h2⟩ (cB.iV h4.1),h4.2⟩
theorem Sp.OY (S:Sp w0 F0 w (ik k b n D::L)) (hk:Keyed Tryz.prog k) (ht:Tryz.prog.underlying t=some (.map k e)) {z:Value} (hz:(zeroValue e).run Tryz.prog w=.ok z w) {key:Value} {x:Lit} (hx:keyOf Tryz.prog k key=some x) {v:Value} (hv:D.atKey x (.held z)=.held v) :
  (Instr.lookup t (.map (some b)) key false).run Tryz.prog w=.ok v w:=by
 obtain ⟨v2,ps,h1,h2⟩:=S.XO.lookup hk ht hz (zd:=.held z) (zp:=[]) rfl hx
 rw [hv] at h2
 simp only [fJ,Option.some.injEq,Prod.mk.injEq,DataW.held.injEq] at h2
 rw [h1,h2.1]
end
end
section
open Go.RowKit Go.Maps
section
variable {w0 w w2:World} {F0:List Nat} {L K:List aT} {r:aT}
variable {e k n b:Nat} {v:Value} {xs:List Value}
structure D5 where
 v:Value
 k:Nat
 rows:List (List Value)
def D5.at (q:D5) (F:List Nat) (w:World):Prop:=∃ a cap,q.v=.slice a q.rows.length cap∧q.rows.length≤cap∧cap≤maxLen∧(q.rows=[]∨∃ b off,a=some ⟨b,off,none⟩∧b∈F∧b<w.heap.size∧∀ i r j u,q.rows[i]? = some r→r[j]? = some u→w.cell? ⟨b,off+i*q.k+j,none⟩=some u)
theorem D5.OZ {q:D5} {F G:List Nat} (h:q.at F w) (hx:Ext G w w2) (hd:∀ x∈F,x∉G):q.at F w2:=by
 obtain ⟨a,cap,h1,h2,h3,h4⟩:=h
 refine ⟨a,cap,h1,h2,h3,?_⟩
 rcases h4 with h4 | ⟨b,off,h5,h6,h7,h8⟩
 ·exact .inl h4
 ·refine .inr ⟨b,off,h5,h6,Nat.lt_of_lt_of_le h7 hx.size,fun i r j u hi hj=>?_⟩
  have:=h8 i r j u hi hj
  rw [World.cell?_of_block (hx.block b h7 (hd b h6))]
  exact this
theorem D5.KE {q:D5} {F G:List Nat} (h:q.at F w) (hs:∀ x∈F,x∈G):q.at G w:=by
 obtain ⟨a,cap,h1,h2,h3,h4⟩:=h
 refine ⟨a,cap,h1,h2,h3,?_⟩
 rcases h4 with h4 | ⟨b,off,h5,h6,h7⟩
 ·exact .inl h4
 ·exact .inr ⟨b,off,h5,hs b h6,h7⟩
abbrev kC (K:List D5):aT where
 holds:=fun F w=>(∀ q∈K,q.at F w)∧∀ x∈F,x<w.heap.size
 keeps:=fun h hx hd=>⟨fun q hq=>D5.OZ (h.1 q hq) hx hd,fun x hx2=>Nat.lt_of_lt_of_le (h.2 x hx2) hx.size⟩
 inside:=fun h x hx=>h.2 x hx
variable {K2:List D5} {q:D5}
theorem Sp.Vf (S:Sp w0 F0 w L):Sp w0 F0 w (kC []::L):=S.gain (G:=[]) (Ext.refl [] w) ⟨by simp,by simp⟩ (by simp)
theorem Sp.rom (S:Sp w0 F0 w (kC K2::L)) (hq:q∈K2):∃ F,q.at F w:=by
 obtain ⟨F,h,_⟩:=S.take
 exact ⟨F,h.1 q hq⟩
theorem RN {rows:List (List Value)} (h:w.ownsRow 0 e k v rows.length rows.flatten) (hl:∀ x∈rows,x.length=k):(D5.mk v k rows).at v.ownBlock.toList w:=by
 rcases h.2 with ⟨rfl,h0⟩ | ⟨g,cap,cur,rfl,_,hg,hc,hm,hs,ht⟩
 ·have:rows=[]:=List.eq_nil_of_length_eq_zero h0
  subst this
  exact ⟨none,0,rfl,Nat.le_refl _,by unfold maxLen;omega,.inl rfl⟩
 ·refine ⟨some ⟨g,0,none⟩,cap,rfl,hc,hm,.inr ⟨g,0,rfl,by simp [Value.ownBlock],jL hg,fun i r j u hi hj=>?_⟩⟩
  have hj2:j<k:=by rw [← hl r (List.mem_of_getElem? hi)];exact (List.getElem?_eq_some_iff.1 hj).1
  have h:=World.ownsRow.cells h (g:=g) rfl (i*k+j) u (by rw [uF rows k i r hl hi j hj2,hj])
  have hadd:(⟨g,0,none⟩:Addr).add (i*k+j)=⟨g,0+i*k+j,none⟩:=by unfold Addr.add;split <;> simp_all [Nat.add_assoc]
  rw [hadd] at h
  exact h
theorem Sp.RO {rows:List (List Value)} (S:Sp w0 F0 w (vE e k v rows.length rows.flatten::kC K2::L)) (hl:∀ x∈rows,x.length=k):Sp w0 F0 w (kC (⟨v,k,rows⟩::K2)::L):=by
 refine S.glue.as fun F h=>?_
 obtain ⟨G,H,⟨rfl,h1⟩,⟨h2,h3⟩,h4,rfl⟩:=h
 refine ⟨fun q hq=>?_,fun x hx=>?_⟩
 ·rcases List.mem_cons.1 hq with rfl | hq
  ·exact D5.KE (RN h1 hl) fun x hx=>List.mem_append_left _ hx
  ·exact D5.KE (h2 q hq) fun x hx=>List.mem_append_right _ hx
 ·rcases List.mem_append.1 hx with hx | hx
  ·exact (h1.lt x (by simpa using hx)).2
  ·exact h3 x hx
end
end
section
open Go.RowKit Go.Maps Go.Sort
def RP (w:World) (v:Value) (l:List Bs):Prop :=
 ∃ a cap,v=.slice a l.length cap∧(l.length≤cap∧cap≤maxLen)∧(l=[]∨∃ b off,a=some ⟨b,off,none⟩∧∀ i,(h:i<l.length)→w.cell? ⟨b,off+i,none⟩=some (.string ⟨l[i].toArray⟩))
section
variable {w0 w w2:World} {F0:List Nat} {L:List aT} {v:Value} {l:List Bs}
theorem RP.nil (w:World):RP w (.slice none 0 0) []:=⟨none,0,rfl,⟨Nat.le_refl _,Nat.zero_le _⟩,.inl rfl⟩
end
end
section
open Go.ChangeShapes Go.WideShapes Go.ChangeAt Go.RowKit Go.Deep
section
variable {H:Type} {enc:TypeId×Value→H} {w:World} {base:Nat} {spare:Nat→Bool} {held:Bool}
def zB (w:World) (v:Value) (l:List Bs):Prop:=RP w v l∧∀ s∈l,s.length≤maxLen
theorem D6 {fuel:Nat} {v:Value} {x:DataW H×List MemPlace} (h:DataW.trod enc Tryz.prog w base spare held fuel 23 [v]=some x):∃ l,zB w v l:=by
 rcases open_strs Tryz.underlying23 Tryz.underlying9 (by kernel_rfl) h with ⟨h0,_⟩ | ⟨a,len,cap,m,Sx,hcs,_,hl,hm,hmm,_,hat⟩
 ·simp only [List.cons.injEq,and_true] at h0
  subst h0
  exact ⟨[],RP.nil w,by simp⟩
 ·simp only [List.cons.injEq,and_true] at hcs
  subst hcs
  have hlm:len≤m:=by rw [hmm];split <;> omega
  obtain ⟨b,off,sp⟩:=a
  have hsp:0<len→sp=none:=fun h0=>by
   have hc:=(hat 0 (by omega)).1
   cases sp with
   | none=>rfl
   | some z =>
    have:((⟨b,off,some z⟩:Addr).add 0)=⟨b,off,some z⟩:=by simp [Addr.add]
    rw [this] at hc
    simp [World.cell?] at hc
    split at hc <;> simp at hc
  refine ⟨(List.range len).map fun i=>(Sx i).data.toList,⟨some ⟨b,off,sp⟩,cap,by simp,by simpa using ⟨hl,hm⟩,?_⟩,?_⟩
  ·by_cases h0:len=0
   ·subst h0;exact .inl rfl
   ·have:=hsp (by omega)
    subst this
    refine .inr ⟨b,off,rfl,fun i hi=>?_⟩
    have hi':i<len:=by simpa using hi
    have hc:=(hat i (by omega)).1
    have add:(⟨b,off,none⟩:Addr).add i=⟨b,off+i,none⟩:=by unfold Addr.add;split <;> simp_all
    rw [add] at hc
    rw [hc]
    simp
  ·intro s hs
   obtain ⟨i,hi,rfl⟩:=List.mem_map.1 hs
   have hi':=List.mem_range.1 hi
   simpa using (hat i (by omega)).2
end
end
section
open Go.ChangeShapes Go.WideShapes Go.ChangeAt Go.RowKit Go.Deep
section
variable {H:Type} {enc:TypeId×Value→H} {w:World} {base:Nat} {spare:Nat→Bool} {held:Bool}
def zC (w:World) (v:Value) (l:List Bool):Prop:=∃ a cap,v=.slice a l.length cap∧l.length≤maxLen∧(l=[]∨∃ b off,a=some ⟨b,off,none⟩∧∀ i,(h:i<l.length)→w.cell? ⟨b,off+i,none⟩=some (.bool l[i]))
theorem BS {fuel:Nat} {v:Value} {x:DataW H×List MemPlace} (h:DataW.trod enc Tryz.prog w base (fun _=>true) held fuel 22 [v]=some x):∃ l,zC w v l:=by
 rcases open_bools Tryz.underlying22 Tryz.underlying4 (by kernel_rfl) h with ⟨h0,_⟩ | ⟨a,len,cap,B,hcs,_,hl,hm,_,hat⟩
 ·simp only [List.cons.injEq,and_true] at h0
  subst h0
  exact ⟨[],none,0,rfl,Nat.zero_le _,.inl rfl⟩
 ·simp only [List.cons.injEq,and_true] at hcs
  subst hcs
  obtain ⟨b,off,sp⟩:=a
  have hsp:0<len→sp=none:=fun h0=>by
   have hc:=(hat 0 (by omega))
   cases sp with
   | none=>rfl
   | some z =>
    have:((⟨b,off,some z⟩:Addr).add 0)=⟨b,off,some z⟩:=by simp [Addr.add]
    rw [this] at hc
    simp [World.cell?] at hc
    split at hc <;> simp at hc
  refine ⟨(List.range len).map B,some ⟨b,off,sp⟩,cap,by simp,by simp;omega,?_⟩
  by_cases h0:len=0
  ·subst h0;exact .inl rfl
  ·have:=hsp (by omega)
   subst this
   refine .inr ⟨b,off,rfl,fun i hi=>?_⟩
   have hi':i<len:=by simpa using hi
   have hc:=(hat i (by omega))
   have add:(⟨b,off,none⟩:Addr).add i=⟨b,off+i,none⟩:=by unfold Addr.add;split <;> simp_all
   rw [add] at hc
   rw [hc]
   simp
end
end
end Go.Proofs.YtangbdahnmomlaaGreatDoor
