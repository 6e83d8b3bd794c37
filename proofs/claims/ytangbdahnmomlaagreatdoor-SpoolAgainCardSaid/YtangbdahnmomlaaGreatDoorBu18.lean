/- From the rows' condition (what Go's variables hold when the call begins) to what the walks ask. No condition. disk, plainly: a disk with one file that is rows, which are laid behind and made sure one by one. No program. ledger, plainly: a disk whose one file is rows of a ledger, and counters that go with it. No program. disk, plainly: files in order, their bytes, and what a disk's history keeps. No program. entry: how entries, and keys of 32 bytes, come as arguments. No condition. law 16: how a config, and slices of acts, come as arguments. No condition. -/
import Derived.Handed
import Derived.LaidLaws
import Derived.LaidMore
import Derived.Lay
import Derived.Lib.SmallJoins
import Derived.OpenShut
import Derived.ProofKit
import Derived.Shelf.Vars
import Derived.Stop.Joined
import Derived.Test.YtangbdahnmomlaaGreatDoorBu02
import Derived.Test.YtangbdahnmomlaaGreatDoorBu04
import Derived.Test.YtangbdahnmomlaaGreatDoorBu13
import Derived.Test.YtangbdahnmomlaaGreatDoorBu15
import Derived.Test.YtangbdahnmomlaaGreatDoorBu17
set_option linter.unnecessarySimpa false
set_option linter.unusedSimpArgs false
set_option linter.unusedVariables false
set_option maxRecDepth 100000
namespace Go.Proofs.YtangbdahnmomlaaGreatDoor
section
open Go.ChangeShapes Go.WideShapes Go.ChangeAt Go.RowKit
def laidL : List (String × DataW Unit) := [("math/bits.deBruijn32tab", Rows.laid_math_bits_deBruijn32tab), ("math/bits.deBruijn64tab", Rows.laid_math_bits_deBruijn64tab), ("internal/strconv.uint64pow10", Rows.laid_internal_strconv_uint64pow10), ("unicode/utf8.acceptRanges", Rows.laid_unicode_utf8_acceptRanges), ("unicode/utf8.first", Rows.laid_unicode_utf8_first)]
theorem laid_own : ownKnob Tryz.prog.godebug = none:=by kernel_rfl
theorem gPow : Tryz.prog.globalNamed "internal/strconv.uint64pow10" = some 0 := by kernel_rfl
theorem tPow : (Tryz.prog.globals[0]?).map (·.type) = some 248:=by kernel_rfl
theorem cPow : Tryz.prog.cellsOf 248 = 20:=by kernel_rfl
theorem cU64 : Tryz.prog.cellsOf 34 = 1:=by kernel_rfl
theorem dPow {H : Type} : (Rows.laid_internal_strconv_uint64pow10 : DataW H) = Lib.tabData .u64 Lib.pow10Tab:=by rfl
theorem max_of_shape {W : World} (hsh : W.ShapedOpen Tryz.prog) : ∃ m,W.cell? ⟨1,0,none⟩ = some (.int .i64 m) :=
  cell_of_shapedOpen_int (t:=3) (zero:=#[.int .i64 0]) hsh (of_decide_eq_true (by kernel_rfl)) (by kernel_rfl) rfl (by kernel_rfl) (by kernel_rfl) Tryz.underlying3
theorem env_of_laid {W : World} (h : laidMetH Tryz.prog laidL W) (hsh : W.ShapedOpen Tryz.prog) : Env W:=by
  rw [MakeChecks.laidMetH_plain _ _ _ (by kernel_rfl)] at h
  obtain ⟨ps,⟨g0,t0,cs0,f0,p0,q0,hg0,ht0,hv0,hd0,⟨g1,t1,cs1,f1,p1,q1,hg1,ht1,hv1,hd1,⟨g2,t2,cs2,f2,p2,q2,hg2,ht2,hv2,hd2,⟨g3,t3,cs3,f3,p3,q3,hg3,ht3,hv3,hd3,⟨g4,t4,cs4,f4,p4,q4,hg4,ht4,hv4,hd4,_,_⟩,_⟩,_⟩,_⟩,_⟩,_⟩:=h
  obtain rfl:=Option.some.inj (gPow.symm.trans hg2)
  obtain rfl:=Option.some.inj (tPow.symm.trans ht2)
  refine ⟨?_,max_of_shape hsh⟩
  · rw [dPow] at hd2
    unfold Lib.TabIs
    rw [hv2,← Lib.cells_of_tab Tryz.underlying248 Tryz.underlying34 cU64 cPow hd2]
theorem door_met (os : Os) (args : Array Value) : laidMetH Tryz.prog laidL ((World.laidAll Tryz.prog os laidL).forCall (fun _ _ => 0) ⟨#[],args,[]⟩).memory:=by
  rw [MakeChecks.laidMetH_plain _ _ _ (by kernel_rfl)]
  exact laidMet_laidAll _ (by kernel_rfl) (by kernel_rfl)
theorem handed_laid {H : Type} {enc : TypeId × Value → H} {a : Assume} {C : Checked} {os : Os} {f : FuncId} {fn : Func} {s : ChangeSpec} {conds : List PathCond} {apart fresh handsOn again : Bool} {X : World → Array Value → Prop}
    (hX : ∀ (w w' : World) (args : Array Value),w.heap = w'.heap → X w args → X w' args)
    (own : ownKnob C.prog.godebug = none) (started : os.Started) (noInit : C.prog.inits.idxOf? f = none) (hfn : C.prog.funcs[f]? = some fn)
    (witness : ∃ (w : World) (tape : Tape) (i : Input),w.os = os ∧ (w.forCall tape i).Shaped C.prog ∧ i.vars = [] ∧ Input.okWide C.prog (w.forCall tape i) .any w.heap.size f i ∧
      ((s.pre enc C.prog fn conds apart (w.forCall tape i).memory i.args ∧ X (w.forCall tape i).memory i.args) ∧ sizedMet enc C.prog fn (OpenSpec.ofChange s) apart (w.forCall tape i).memory i.args) ∧ a.holds C.prog (lone (Frame.enter C.prog f i.args .normal) [] (w.forCall tape i)))
    (contract : ∀ (W : World) (base : Nat) (args : Array Value) (ds gs : List (DataW H)) (before : List MemPlace),
      (∀ (j : Nat) t v,fn.params[j]? = some t → args[j]? = some v → Value.okWide C.prog W .any base t v) →
      DataW.Whole enc C.prog fn.params.toList s.vars apart W args.toList ds gs before →
      conds.all (PathCond.test C.prog ⟨fn.params.toList,ds,s.plain.varTypes C.prog,gs⟩) = true →
      X W args → W.ShapedOpen C.prog →
      Calls C.prog f args W fun e W' => ∃ v,e = .returned v ∧ s.post enc C.prog fn apart fresh handsOn again W args v W') :
    ReturnsInHanded a C os f .any (fun w args => (s.pre enc C.prog fn conds apart w args ∧ X w args) ∧ sizedMet enc C.prog fn (OpenSpec.ofChange s) apart w args) (s.post enc C.prog fn apart fresh handsOn again):=by
  refine returnsInHanded_of_calls own started noInit witness ?_
  intro w tape i _ hsh _ hok hpre hholds
  obtain ⟨_,_,_,fn',hfn',_,_,_,_,hval⟩:=hok
  have e : fn' = fn:=Option.some.inj (hfn'.symm.trans hfn)
  subst e
  obtain ⟨⟨⟨ds,gs,before,hw,hc⟩,hx⟩,hz⟩:=hpre
  have hw':=DataW.Whole.of_heap (w':=w.forCall tape i) (by rfl) hw
  refine (contract (w.forCall tape i) w.heap.size i.args ds gs before hval hw' hc (hX _ _ _ (by rfl) hx) hsh).mono fun e W' ⟨v,he,hp⟩ => ?_
  subst he
  exact ChangeSpec.post_blind hp
end
section
open Go.RowKit Go.Maps
theorem fget_one (k x : Bs) : Fs.get [(k,x)] k = some x:=by simp [Fs.get]
theorem fhas_one (k x : Bs) : Fs.has [(k,x)] k = true:=by simp [Fs.has]
def layEv (nm : Bs) (r : Bs) : Ev:=⟨2,nm,[],r⟩
structure FD (nm : Bs) (D : Dk) (l t : List Bs) : Prop where
  now : D.now = [(nm,(l ++ t).flatten)]
  sure : D.sure = [(nm,l.flatten)]
  pend : D.pend = t.map (layEv nm)
  dead : t ≠ [] → D.dead = true
  fuse : D.fuse ≤ 9223372036854775807
def addSync (D : Dk) (nm row : Bs) : Dk × Int:=if (D.append nm row).2 ≠ 0 then D.append nm row else (D.append nm row).1.sync
end
section
open Go.RowKit Go.Maps
theorem rowNext_back (x : LRow) (rest : Bs) (h : lrowOk x) : rowNext ⟨x.text ++ rest,false⟩ = (x,true,⟨rest,false⟩):=by
  obtain ⟨key,ceil⟩:=x
  obtain ⟨h1,h2⟩:=h
  dsimp only at h1 h2
  have l1:=textB_length_le key
  have l2:=numB_length_le ceil
  have e1:=text_back (textB key ++ numB ceil) 600 rest (by simp only [List.length_append]; omega) (by simp only [List.length_append]; omega)
  have e2:=text_back key 300 (numB ceil) (by omega) h1
  have e3:=num_back ceil 1099511627776 [] (by omega) h2
  rw [List.append_nil] at e3
  have hne : (textB key ++ numB ceil).isEmpty = false:=by simp [textB,numB]
  unfold rowNext readRow LRow.text
  simp only [e1,e2,e3,hne]
  rfl
theorem lrows_back (l : List LRow) (h : ∀ p ∈ l,lrowOk p) : ledRows (l.map LRow.text).flatten = l ∧ ledRest (l.map LRow.text).flatten = []:=by
  induction l with
  | nil => exact ledScan_stop (by decide)
  | cons p r ih =>
    obtain ⟨i1,i2⟩:=ih (fun q hq => h q (by simp [hq]))
    have hb:=rowNext_back p (r.map LRow.text).flatten (h p (by simp))
    rw [List.map_cons,List.flatten_cons]
    have h1:=ledScan_step (s:=p.text ++ (r.map LRow.text).flatten) (by rw [hb])
    rw [hb] at h1
    dsimp only at h1
    rw [h1.1,h1.2,i1,i2]
    exact ⟨rfl,rfl⟩
structure LD (D : Dk) (l t : List LRow) : Prop where
  fd : FD ledB D (l.map LRow.text) (t.map LRow.text)
  ok : ∀ x ∈ l ++ t,lrowOk x
theorem LD.open {D : Dk} {l t : List LRow} (h : LD D l t) : ledOpen D = (D,some (ledPuts (l ++ t)),0):=by
  have hf : ledFile D = ((l ++ t).map LRow.text).flatten:=by unfold ledFile; rw [h.fd.now,fget_one,List.map_append]; rfl
  obtain ⟨h1,h2⟩:=lrows_back (l ++ t) h.ok
  unfold ledOpen
  rw [hf,h1,h2,if_pos ⟨by rw [h.fd.now,fhas_one],rfl⟩]
theorem lgOf_put (M : Mp Cnt) (k : Bs) (c : Cnt) (j : Bs) : lgOf (M.put k c) j = if k = j then c else lgOf M j:=by
  unfold lgOf
  rw [Mp.get_put]
  split <;> rfl
theorem lgOf_puts (l : List LRow) (x : LRow) (j : Bs) : lgOf (ledPuts (l ++ [x])) j = if x.key = j then ⟨x.ceil,x.ceil⟩ else lgOf (ledPuts l) j:=by
  rw [ledPuts_snoc,lgOf_put]
theorem ledPuts_same (l : List LRow) (j : Bs) : (lgOf (ledPuts l) j).c = (lgOf (ledPuts l) j).ceil:=by
  have : ∀ (r : List LRow),∀ l',l = l' ++ r → (lgOf (ledPuts l') j).c = (lgOf (ledPuts l') j).ceil → (lgOf (ledPuts (l' ++ r)) j).c = (lgOf (ledPuts (l' ++ r)) j).ceil:=by
    intro r
    induction r with
    | nil => intro l' _ h; simpa using h
    | cons x r ih =>
      intro l' e h
      have:=ih (l' ++ [x]) (by simpa using e) (by rw [lgOf_puts]; split <;> first | rfl | exact h)
      simpa using this
  simpa using this l [] rfl rfl
end
section
open Go.RowKit Go.Maps
def Fs.Sorted (F : Fs) : Prop:=F.Pairwise fun p q => bytesBefore p.1 q.1 = true
theorem before_trans {a b c : Bs} (h1 : bytesBefore a b = true) (h2 : bytesBefore b c = true) : bytesBefore a c = true:=by
  rw [bytesBefore_eq,decide_eq_true_eq] at *
  exact List.lt_trans h1 h2
theorem before_total {a b : Bs} (h : bytesBefore a b = false) (hne : a ≠ b) : bytesBefore b a = true:=by
  rw [bytesBefore_eq,decide_eq_false_iff_not] at h
  rw [bytesBefore_eq,decide_eq_true_eq]
  exact Decidable.byContradiction fun hn => hne (List.le_antisymm (List.not_lt.1 hn) (List.not_lt.1 h))
theorem sorted_ins {x : Bs × Bs} : ∀ {F : Fs},F.Sorted → (∀ p ∈ F,p.1 ≠ x.1) → (Fs.ins x F).Sorted
  | [],_,_ => by simp [Fs.ins,Fs.Sorted]
  | y :: r,h,hx => by
    unfold Fs.Sorted at h
    rw [List.pairwise_cons] at h
    unfold Fs.ins
    split
    · rename_i hb
      refine List.Pairwise.cons (fun p hp => ?_) (List.Pairwise.cons h.1 h.2)
      rcases List.mem_cons.1 hp with rfl | hp
      · exact hb
      · exact before_trans hb (h.1 p hp)
    · rename_i hb
      refine List.Pairwise.cons (fun p hp => ?_) (sorted_ins h.2 (fun p hp => hx p (by simp [hp])))
      rcases mem_ins.1 hp with rfl | hp
      · exact before_total (by simpa using hb) (fun e => hx y (by simp) e.symm)
      · exact h.1 p hp
theorem Fs.Sorted.del {F : Fs} (h : F.Sorted) (k : Bs) : (F.del k).Sorted:=List.Pairwise.filter _ h
theorem Fs.Sorted.put {F : Fs} (h : F.Sorted) (k v : Bs) : (F.put k v).Sorted:=sorted_ins (h.del k) (fun _ hp => (mem_del.1 hp).2)
theorem has_iff {F : Fs} {k : Bs} : F.has k = true ↔ ∃ p ∈ F,p.1 = k:=by
  unfold Fs.has
  rw [List.any_eq_true]
  simp
structure Hist (Q : Fs → Prop) (D : Dk) : Prop where
  all : ∀ k,Q (D.replay k)
  now : D.now = D.replay D.pend.length
theorem replay_all (D : Dk) {k : Nat} (h : D.pend.length ≤ k) : D.replay k = D.replay D.pend.length:=by
  unfold Dk.replay
  rw [List.take_of_length_le h,List.take_of_length_le (Nat.le_refl _)]
theorem replay_snoc (D : Dk) (e : Ev) (k : Nat) (hk : k ≤ D.pend.length) (D2 : Dk) (hs : D2.sure = D.sure) (hp : D2.pend = D.pend ++ [e]) : D2.replay k = D.replay k:=by
  unfold Dk.replay
  rw [hs,hp,List.take_append_of_le_length hk]
theorem replay_last (D : Dk) (e : Ev) (D2 : Dk) (hs : D2.sure = D.sure) (hp : D2.pend = D.pend ++ [e]) : D2.replay D2.pend.length = (D.replay D.pend.length).did e:=by
  unfold Dk.replay
  rw [List.take_of_length_le (Nat.le_refl _),List.take_of_length_le (Nat.le_refl _),hs,hp,List.foldl_append]
  rfl
theorem Hist.good {Q : Fs → Prop} {D : Dk} (h : Hist Q D) : Q D.now:=by rw [h.now]; exact h.all _
theorem Hist.done {Q : Fs → Prop} {D : Dk} (h : Hist Q D) (e : Ev) (hq : e.op ≠ 5 → Q (D.now.did e)) : Hist Q (D.done e).1:=by
  unfold Dk.done
  split
  · exact ⟨h.all,h.now⟩
  · split
    · exact ⟨fun k => by simpa [Dk.replay] using h.good,by simp [Dk.replay]⟩
    · rename_i h5
      have key : ∀ D2 : Dk,D2.sure = D.sure → D2.pend = D.pend ++ [e] → D2.now = D.now.did e → Hist Q D2:=by
        intro D2 h1 h2 h3
        refine ⟨fun k => ?_,?_⟩
        · by_cases hk : k ≤ D.pend.length
          · rw [replay_snoc D e k hk D2 h1 h2]; exact h.all k
          · rw [replay_all D2 (by rw [h2]; simp; omega),replay_last D e D2 h1 h2,← h.now]; exact hq h5
        · rw [replay_last D e D2 h1 h2,← h.now,h3]
      exact key _ rfl rfl rfl
end
section
open Go.ChangeShapes Go.WideShapes Go.ChangeAt Go.RowKit Go.Deep
def Rcp.Wf (x : Rcp) : Prop:=x.1.1.length ≤ maxLen ∧ x.1.2.length ≤ maxLen ∧ -9223372036854775808 ≤ x.2 ∧ x.2 ≤ 9223372036854775807
structure En.Wf (e : En) : Prop where
  id : e.id < 18446744073709551616
  ep : e.ep < 18446744073709551616
  cnt : e.cnt < 18446744073709551616
  born : e.born < 18446744073709551616
  nxt : e.nxt < 18446744073709551616
  tries : -9223372036854775808 ≤ e.tries ∧ e.tries ≤ 9223372036854775807
  dom : e.dom.length ≤ maxLen
  frm : e.frm.1.length ≤ maxLen ∧ e.frm.2.length ≤ maxLen
  rcs : e.rcs.length ≤ maxLen
  each : ∀ x ∈ e.rcs,x.Wf
section
variable {H : Type} {enc : TypeId × Value → H} {w : World} {base : Nat} {spare : Nat → Bool} {held : Bool}
theorem list2 {α : Type} {cs : List α} (h : cs.length = 2) : ∃ c0 c1,cs = [c0,c1]:=by
  match cs,h with
  | [c0,c1],_ => exact ⟨c0,c1,rfl⟩
theorem list3 {α : Type} {cs : List α} (h : cs.length = 3) : ∃ c0 c1 c2,cs = [c0,c1,c2]:=by
  match cs,h with
  | [c0,c1,c2],_ => exact ⟨c0,c1,c2,rfl⟩
theorem list9 {α : Type} {cs : List α} (h : cs.length = 9) : ∃ c0 c1 c2 c3 c4 c5 c6 c7 c8,cs = [c0,c1,c2,c3,c4,c5,c6,c7,c8]:=by
  match cs,h with
  | [c0,c1,c2,c3,c4,c5,c6,c7,c8],_ => exact ⟨c0,c1,c2,c3,c4,c5,c6,c7,c8,rfl⟩
theorem mb_of_cells {fuel : Nat} {c0 c1 : Value} {x : DataW H × List MemPlace} (h : DataW.trod enc Tryz.prog w base spare held fuel 37 [c0,c1] = some x) : ∃ m : Mb,c0 = .string ⟨m.1.toArray⟩ ∧ c1 = .string ⟨m.2.toArray⟩ ∧ m.1.length ≤ maxLen ∧ m.2.length ≤ maxLen:=by
  obtain ⟨xs,n,_,_,_,hlen,hat⟩:=DataW.trod_struct Tryz.underlying37 h
  obtain ⟨y0,y1,rfl⟩:=list2 (show xs.length = 2 from hlen)
  have h0 : DataW.trod enc Tryz.prog w base spare held n 9 [c0] = some y0:=hat 0 _ rfl
  have h1 : DataW.trod enc Tryz.prog w base spare held n 9 [c1] = some y1:=hat 1 _ rfl
  obtain ⟨z0,e0,_,w0⟩:=DataW.trod_string Tryz.underlying9 h0
  obtain ⟨z1,e1,_,w1⟩:=DataW.trod_string Tryz.underlying9 h1
  simp only [List.cons.injEq,and_true] at e0 e1
  subst e0 e1
  exact ⟨(z0.data.toList,z1.data.toList),rfl,rfl,w0,w1⟩
theorem to_of_cells {fuel : Nat} {cs : List Value} {x : DataW H × List MemPlace} (h : DataW.trod enc Tryz.prog w base spare held fuel 100 cs = some x) : ∃ r : Rcp,r.Wf ∧ cs = r.vals:=by
  obtain ⟨xs,n,_,_,hcl,hlen,hat⟩:=DataW.trod_struct Tryz.underlying100 h
  rw [show Tryz.prog.cellsOf 100 = 3 by kernel_rfl] at hcl
  obtain ⟨c0,c1,c2,rfl⟩:=list3 hcl
  obtain ⟨y0,y1,rfl⟩:=list2 (show xs.length = 2 from hlen)
  have h0 : DataW.trod enc Tryz.prog w base spare held n 37 [c0,c1] = some y0:=hat 0 _ rfl
  have h1 : DataW.trod enc Tryz.prog w base spare held n 3 [c2] = some y1:=hat 1 _ rfl
  obtain ⟨m,rfl,rfl,w0,w1⟩:=mb_of_cells h0
  obtain ⟨z,e1,_,wz⟩:=DataW.trod_int Tryz.underlying3 h1
  simp only [List.cons.injEq,and_true] at e1
  subst e1
  have bz : -9223372036854775808 ≤ z ∧ z ≤ 9223372036854775807:=by simpa [Lit.wf,IntKind.min,IntKind.max,IntKind.signed,IntKind.bits] using wz
  exact ⟨(m,z),⟨w0,w1,bz.1,bz.2⟩,rfl⟩
theorem tos_of_trod {fuel : Nat} {v : Value} {x : DataW H × List MemPlace} (h : DataW.trod enc Tryz.prog w base spare held fuel 38 [v] = some x) : ∃ l : List Rcp,TosAt w v l ∧ l.length ≤ maxLen ∧ ∀ r ∈ l,r.Wf:=by
  rcases open_slice Tryz.underlying38 h with ⟨h0,_⟩ | ⟨a,len,cap,m,n,D,Pl,hcs,hb,hl,hm,hmm,hx,hi⟩
  · simp only [List.cons.injEq,and_true] at h0
    subst h0
    exact ⟨[],TosAt.nil w,Nat.zero_le _,by simp⟩
  · simp only [List.cons.injEq,and_true] at hcs
    subst hcs
    by_cases h0 : len = 0
    · subst h0
      exact ⟨[],⟨_,_,rfl,.inl rfl⟩,Nat.zero_le _,by simp⟩
    · obtain ⟨l,h1,h2,h3⟩:=rows_all (w:=w) (a:=a) (len:=len) (k:=3) Rcp.vals Rcp.Wf (fun _ => rfl) (([],[]),0) (fun i hil => by
        obtain ⟨cs',hc,ht'⟩:=hi i (by rw [hmm]; split <;> omega)
        rw [show Tryz.prog.cellsOf 100 = 3 by kernel_rfl] at hc
        obtain ⟨r,hr,rfl⟩:=to_of_cells ht'
        obtain ⟨_,_,hat⟩:=World.cells?_some hc
        refine ⟨r,hr,fun j u hj => ?_⟩
        have hj3 : j < 3:=(List.getElem?_eq_some_iff.1 hj).1
        rw [← Go.Deep.add_add]
        exact (hat j hj3).trans hj) (Nat.pos_of_ne_zero h0)
      refine ⟨l,⟨some a,cap,by rw [h1],h3⟩,by omega,fun r hr => ?_⟩
      obtain ⟨i,hil,rfl⟩:=List.mem_iff_getElem.1 hr
      exact h2 i hil
theorem u64_of {z : Int} (h : (Lit.int .u64 z).wf = true) : ∃ n : Nat,z = n ∧ n < 18446744073709551616:=by
  have b : 0 ≤ z ∧ z ≤ 18446744073709551615:=by simpa [Lit.wf,IntKind.min,IntKind.max,IntKind.signed,IntKind.bits] using h
  exact ⟨z.toNat,by omega,by omega⟩
end
end
section
open Go.ChangeShapes Go.WideShapes Go.ChangeAt Go.RowKit Go.Deep
open Go.ChangeMaps (open_string shut_string)
structure A16 where
  kind : Int
  n : Int
  mm : Int
  e : En
  body : Bs
structure A16.Wf (x : A16) : Prop where
  kind : -9223372036854775808 ≤ x.kind ∧ x.kind ≤ 9223372036854775807
  n : -9223372036854775808 ≤ x.n ∧ x.n ≤ 9223372036854775807
  mm : -9223372036854775808 ≤ x.mm ∧ x.mm ≤ 9223372036854775807
  e : x.e.Wf
  body : x.body.length ≤ maxLen
abbrev A16v:=A16 × Value
def A16.vals (p : A16v) : List Value:=[.int .i64 p.1.kind,.int .i64 p.1.n,.int .i64 p.1.mm,.int .u64 p.1.e.id,.string ⟨p.1.e.dom.toArray⟩,.int .u64 p.1.e.ep,.int .u64 p.1.e.cnt,.string ⟨p.1.e.frm.1.toArray⟩,.string ⟨p.1.e.frm.2.toArray⟩,p.2,.int .u64 p.1.e.born,.int .u64 p.1.e.nxt,.int .i64 p.1.e.tries,.string ⟨p.1.body.toArray⟩]
def A16.agg (p : A16v) : Value:=.agg (A16.vals p).toArray
def Acts16At (w : World) (v : Value) (l : List A16v) : Prop:=∃ a cap,v = .slice a l.length cap ∧ l.length ≤ maxLen ∧ (∀ p ∈ l,p.1.Wf ∧ TosAt w p.2 p.1.e.rcs) ∧ RowsAt w a 14 (l.map A16.vals)
theorem acts16_cells {w : World} {b off : Nat} {l : List A16v} (h : RowsAt w (some ⟨b,off,none⟩) 14 (l.map A16.vals)) {i : Nat} {p : A16v} (hi : l[i]? = some p) : ∀ j,j < 14 → w.cell? ⟨b,off + i * 14 + j,none⟩ = (A16.vals p)[j]?:=by
  intro j hj
  have g:=h.at i (A16.vals p) (by rw [List.getElem?_map,hi]; rfl) j ((A16.vals p)[j]'hj) (List.getElem?_eq_getElem hj)
  rw [g]
  exact (List.getElem?_eq_getElem hj).symm
def cfg16Agg (i : Bool) (d : Bs) (s m : Nat) : Value:=.agg #[.bool i,.string ⟨d.toArray⟩,.int .u64 s,.int .u64 m]
section
variable {H : Type} {enc : TypeId × Value → H} {w : World} {base : Nat} {spare : Nat → Bool} {held : Bool}
theorem list14 {α : Type} {cs : List α} (h : cs.length = 14) : ∃ c0 c1 c2 c3 c4 c5 c6 c7 c8 c9 d0 d1 d2 d3,cs = [c0,c1,c2,c3,c4,c5,c6,c7,c8,c9,d0,d1,d2,d3]:=by
  match cs,h with
  | [c0,c1,c2,c3,c4,c5,c6,c7,c8,c9,d0,d1,d2,d3],_ => exact ⟨c0,c1,c2,c3,c4,c5,c6,c7,c8,c9,d0,d1,d2,d3,rfl⟩
theorem list5 {α : Type} {cs : List α} (h : cs.length = 5) : ∃ c0 c1 c2 c3 c4,cs = [c0,c1,c2,c3,c4]:=by
  match cs,h with
  | [c0,c1,c2,c3,c4],_ => exact ⟨c0,c1,c2,c3,c4,rfl⟩
theorem list4x {α : Type} {cs : List α} (h : cs.length = 4) : ∃ c0 c1 c2 c3,cs = [c0,c1,c2,c3]:=by
  match cs,h with
  | [c0,c1,c2,c3],_ => exact ⟨c0,c1,c2,c3,rfl⟩
theorem array4x {α : Type} {cs : Array α} (h : cs.size = 4) : ∃ c0 c1 c2 c3,cs = #[c0,c1,c2,c3]:=by
  obtain ⟨l⟩:=cs
  match l,h with
  | [c0,c1,c2,c3],_ => exact ⟨c0,c1,c2,c3,rfl⟩
theorem i64_bd {z : Int} (h : (Lit.int .i64 z).wf = true) : -9223372036854775808 ≤ z ∧ z ≤ 9223372036854775807:=by simpa [Lit.wf,IntKind.min,IntKind.max,IntKind.signed,IntKind.bits] using h
theorem en_of_cells {fuel : Nat} {c0 c1 c2 c3 c4 c5 c6 c7 c8 c9 : Value} {x : DataW H × List MemPlace} (hf : DataW.trod enc Tryz.prog w base spare held fuel 40 [c0,c1,c2,c3,c4,c5,c6,c7,c8,c9] = some x) :
    ∃ e : En,e.Wf ∧ TosAt w c6 e.rcs ∧ c0 = .int .u64 e.id ∧ c1 = .string ⟨e.dom.toArray⟩ ∧ c2 = .int .u64 e.ep ∧ c3 = .int .u64 e.cnt ∧ c4 = .string ⟨e.frm.1.toArray⟩ ∧ c5 = .string ⟨e.frm.2.toArray⟩ ∧ c7 = .int .u64 e.born ∧ c8 = .int .u64 e.nxt ∧ c9 = .int .i64 e.tries:=by
  obtain ⟨xs,n,_,_,_,hlen,hat⟩:=DataW.trod_struct Tryz.underlying40 hf
  obtain ⟨y0,y1,y2,y3,y4,y5,y6,y7,y8,rfl⟩:=list9 (show xs.length = 9 from hlen)
  have h0 : DataW.trod enc Tryz.prog w base spare held n 34 [c0] = some y0:=hat 0 _ rfl
  have h1 : DataW.trod enc Tryz.prog w base spare held n 9 [c1] = some y1:=hat 1 _ rfl
  have h2 : DataW.trod enc Tryz.prog w base spare held n 34 [c2] = some y2:=hat 2 _ rfl
  have h3 : DataW.trod enc Tryz.prog w base spare held n 34 [c3] = some y3:=hat 3 _ rfl
  have h4 : DataW.trod enc Tryz.prog w base spare held n 37 [c4,c5] = some y4:=hat 4 _ rfl
  have h5 : DataW.trod enc Tryz.prog w base spare held n 38 [c6] = some y5:=hat 5 _ rfl
  have h6 : DataW.trod enc Tryz.prog w base spare held n 34 [c7] = some y6:=hat 6 _ rfl
  have h7 : DataW.trod enc Tryz.prog w base spare held n 34 [c8] = some y7:=hat 7 _ rfl
  have h8 : DataW.trod enc Tryz.prog w base spare held n 3 [c9] = some y8:=hat 8 _ rfl
  obtain ⟨z0,e0,_,w0⟩:=DataW.trod_int Tryz.underlying34 h0
  obtain ⟨z1,e1,_,w1⟩:=DataW.trod_string Tryz.underlying9 h1
  obtain ⟨z2,e2,_,w2⟩:=DataW.trod_int Tryz.underlying34 h2
  obtain ⟨z3,e3,_,w3⟩:=DataW.trod_int Tryz.underlying34 h3
  obtain ⟨m,e4,e5,w4,w5⟩:=mb_of_cells h4
  obtain ⟨l,hT,hl,hw⟩:=tos_of_trod h5
  obtain ⟨z6,e6,_,w6⟩:=DataW.trod_int Tryz.underlying34 h6
  obtain ⟨z7,e7,_,w7⟩:=DataW.trod_int Tryz.underlying34 h7
  obtain ⟨z8,e8,_,w8⟩:=DataW.trod_int Tryz.underlying3 h8
  simp only [List.cons.injEq,and_true] at e0 e1 e2 e3 e6 e7 e8
  obtain ⟨n0,rfl,g0⟩:=u64_of w0
  obtain ⟨n2,rfl,g2⟩:=u64_of w2
  obtain ⟨n3,rfl,g3⟩:=u64_of w3
  obtain ⟨n6,rfl,g6⟩:=u64_of w6
  obtain ⟨n7,rfl,g7⟩:=u64_of w7
  have b8:=i64_bd w8
  subst e0 e1 e2 e3 e4 e5 e6 e7 e8
  exact ⟨⟨n0,z1.data.toList,n2,n3,m,l,n6,n7,z8⟩,⟨g0,g2,g3,g6,g7,b8,by simpa using w1,⟨w4,w5⟩,hl,hw⟩,hT,rfl,rfl,rfl,rfl,rfl,rfl,rfl,rfl,rfl⟩
theorem act16_of_cells {fuel : Nat} {cs : List Value} {x : DataW H × List MemPlace} (hsz : cs.length = 14) (h : DataW.trod enc Tryz.prog w base spare held fuel 64 cs = some x) : ∃ p : A16v,(p.1.Wf ∧ TosAt w p.2 p.1.e.rcs) ∧ cs = A16.vals p:=by
  obtain ⟨c0,c1,c2,c3,c4,c5,c6,c7,c8,c9,d0,d1,d2,d3,rfl⟩:=list14 hsz
  obtain ⟨xs,n,_,_,_,hlen,hat⟩:=DataW.trod_struct Tryz.underlying64 h
  obtain ⟨y0,y1,y2,y3,y4,rfl⟩:=list5 (show xs.length = 5 from hlen)
  have h0 : DataW.trod enc Tryz.prog w base spare held n 3 [c0] = some y0:=hat 0 _ rfl
  have h1 : DataW.trod enc Tryz.prog w base spare held n 3 [c1] = some y1:=hat 1 _ rfl
  have h2 : DataW.trod enc Tryz.prog w base spare held n 3 [c2] = some y2:=hat 2 _ rfl
  have h3 : DataW.trod enc Tryz.prog w base spare held n 40 [c3,c4,c5,c6,c7,c8,c9,d0,d1,d2] = some y3:=hat 3 _ rfl
  have h4 : DataW.trod enc Tryz.prog w base spare held n 9 [d3] = some y4:=hat 4 _ rfl
  obtain ⟨z0,e0,_,w0⟩:=DataW.trod_int Tryz.underlying3 h0
  obtain ⟨z1,e1,_,w1⟩:=DataW.trod_int Tryz.underlying3 h1
  obtain ⟨z2,e2,_,w2⟩:=DataW.trod_int Tryz.underlying3 h2
  obtain ⟨e,hw,hT,rfl,rfl,rfl,rfl,rfl,rfl,rfl,rfl,rfl⟩:=en_of_cells h3
  obtain ⟨z4,e4,_,w4⟩:=DataW.trod_string Tryz.underlying9 h4
  simp only [List.cons.injEq,and_true] at e0 e1 e2 e4
  subst e0 e1 e2 e4
  exact ⟨(⟨z0,z1,z2,e,z4.data.toList⟩,c9),⟨⟨i64_bd w0,i64_bd w1,i64_bd w2,hw,by simpa using w4⟩,hT⟩,rfl⟩
theorem acts16_of_trod {fuel : Nat} {v : Value} {x : DataW H × List MemPlace} (h : DataW.trod enc Tryz.prog w base spare held fuel 59 [v] = some x) : ∃ l : List A16v,Acts16At w v l:=by
  rcases open_slice Tryz.underlying59 h with ⟨h0,_⟩ | ⟨a,len,cap,m,n,D,Pl,hcs,hb,hl,hm,hmm,hx,hi⟩
  · simp only [List.cons.injEq,and_true] at h0
    subst h0
    exact ⟨[],none,0,rfl,Nat.zero_le _,by simp,.inl rfl⟩
  · simp only [List.cons.injEq,and_true] at hcs
    subst hcs
    by_cases h0 : len = 0
    · subst h0
      exact ⟨[],_,_,rfl,Nat.zero_le _,by simp,.inl rfl⟩
    · obtain ⟨l,h1,h2,h3⟩:=rows_all (w:=w) (a:=a) (len:=len) (k:=14) A16.vals (fun p => p.1.Wf ∧ TosAt w p.2 p.1.e.rcs) (fun _ => rfl) (⟨0,0,0,En.zero,[]⟩,.slice none 0 0) (fun i hil => by
        obtain ⟨cs',hc,ht'⟩:=hi i (by rw [hmm]; split <;> omega)
        rw [show Tryz.prog.cellsOf 64 = 14 by kernel_rfl] at hc
        obtain ⟨_,hlen,hat⟩:=World.cells?_some hc
        obtain ⟨p,hp,rfl⟩:=act16_of_cells (by simpa using hlen) ht'
        refine ⟨p,hp,fun j u hj => ?_⟩
        have hj3 : j < 14:=(List.getElem?_eq_some_iff.1 hj).1
        rw [← Go.Deep.add_add]
        exact (hat j hj3).trans hj) (Nat.pos_of_ne_zero h0)
      refine ⟨l,some a,cap,by rw [h1],by omega,fun r hr => ?_,h3⟩
      obtain ⟨i,hil,rfl⟩:=List.mem_iff_getElem.1 hr
      exact h2 i hil
theorem cfg16_of_trod {r : Reach} {b0 : Nat} {v : Value} {d : DataW H} {p : List MemPlace} (hv : Value.okWide Tryz.prog w r b0 58 v) (h : DataW.Trod enc Tryz.prog w base spare held 58 v d p) :
    ∃ (i : Bool) (dr : Bs) (s m : Nat),v = cfg16Agg i dr s m ∧ dr.length ≤ maxLen ∧ s < 18446744073709551616 ∧ m < 18446744073709551616:=by
  obtain ⟨cs,rfl,hsz⟩:=okWide_struct Tryz.underlying58 hv
  obtain ⟨c0,c1,c2,c3,rfl⟩:=array4x (hsz.trans (show Tryz.prog.cellsOf 58 = 4 by kernel_rfl))
  obtain ⟨fuel,hf⟩:=h
  obtain ⟨xs,n,_,_,_,hlen,hat⟩:=DataW.trod_struct Tryz.underlying58 hf
  obtain ⟨y0,y1,y2,y3,rfl⟩:=list4x (show xs.length = 4 from hlen)
  have h0 : DataW.trod enc Tryz.prog w base spare held n 4 [c0] = some y0:=hat 0 _ rfl
  have h1 : DataW.trod enc Tryz.prog w base spare held n 9 [c1] = some y1:=hat 1 _ rfl
  have h2 : DataW.trod enc Tryz.prog w base spare held n 34 [c2] = some y2:=hat 2 _ rfl
  have h3 : DataW.trod enc Tryz.prog w base spare held n 34 [c3] = some y3:=hat 3 _ rfl
  obtain ⟨z0,e0,_⟩:=DataW.trod_bool Tryz.underlying4 h0
  obtain ⟨z1,e1,_,w1⟩:=DataW.trod_string Tryz.underlying9 h1
  obtain ⟨z2,e2,_,w2⟩:=DataW.trod_int Tryz.underlying34 h2
  obtain ⟨z3,e3,_,w3⟩:=DataW.trod_int Tryz.underlying34 h3
  simp only [List.cons.injEq,and_true] at e0 e1 e2 e3
  obtain ⟨n2,rfl,g2⟩:=u64_of w2
  obtain ⟨n3,rfl,g3⟩:=u64_of w3
  subst e0 e1 e2 e3
  exact ⟨z0,z1.data.toList,n2,n3,rfl,by simpa using w1,g2,g3⟩
end
end
end Go.Proofs.YtangbdahnmomlaaGreatDoor
