/- law 16, plainly: what the first look computes. No program. law 16, plainly: what keeps the first look's lengths small. No program. law 16: awake. Conditions: what Go's variables hold. law 16: SpoolAgain whole: its walk, with the first look's. -/
import Derived.Test.YtangbdahnmomlaaGreatDoorBu13
import Derived.Test.YtangbdahnmomlaaGreatDoorBu45
set_option linter.unnecessarySimpa false
set_option linter.unusedSimpArgs false
set_option linter.unusedVariables false
set_option maxHeartbeats 16000000
set_option maxRecDepth 1000000
namespace Go.Proofs.YtangbdahnmomlaaGreatDoor
section
open Go.RowKit Go.Maps
def c16 : Sc:=⟨master16,2,100⟩
def ab16 : Bs:=[97,46,98]
def rc16 : List Rcp:=[(([120],[99]),0)]
def e16 : En:=⟨0,ab16,0,0,([],[]),rc16,0,0,0⟩
def body16 : Bs:=[98,111,100,121]
def other16 : Bs:=[111,116,104,101,114]
def aB0 : Bx:=.ideal (zeros 2000) []
def aQ0 : Sq:=Q16 aB0
def aQ1 : Sq:=(aQ0.put c16 e16 body16).1
theorem a1 : (aQ0.put c16 e16 body16).2 = (1,0):=by kernel_rfl
def x16 : En:=⟨1,ab16,1,0,([],[]),rc16,0,0,0⟩
theorem l1 : (aQ1.load master16 1).2 = (x16,body16,0):=by kernel_rfl
def y16 : En:=⟨1,ab16,1,0,([],[]),rc16,0,0,3⟩
def aQ2 : Sq:=(aQ1.update c16 y16).1
theorem u1 : (aQ1.update c16 y16).2 = 0:=by kernel_rfl
def z16 : En:=⟨1,ab16,1,1,([],[]),rc16,0,0,3⟩
theorem l2 : (aQ2.load master16 1).2 = (z16,body16,0):=by kernel_rfl
def aQ3 : Sq:=(aQ2.begin ab16).1
theorem b1 : (aQ2.begin ab16).2 = 0:=by kernel_rfl
def aQ4 : Sq:=(aQ3.step c16 ab16).1
theorem s1 : (aQ3.step c16 ab16).2 = (false,0):=by kernel_rfl
def aQ5 : Sq:=(aQ4.step c16 ab16).1
theorem s2 : (aQ4.step c16 ab16).2 = (true,0):=by kernel_rfl
theorem st16 : ringState aQ5.ring ab16 = ⟨2,0⟩:=by kernel_rfl
def aR0 : Sq:={ aQ5 with led:=(ledOpen aQ5.D).2.1.getD [] }
def w16 : En:=⟨1,ab16,2,0,([],[]),rc16,0,0,3⟩
theorem l3 : (aR0.load master16 1).2 = (w16,body16,0):=by kernel_rfl
def aR1 : Sq:=(aR0.put c16 e16 other16).1
theorem a2 : (aR0.put c16 e16 other16).2 = (2,0):=by kernel_rfl
def aR2 : Sq:={ aR1 with D:=(aR1.D.edit (fileB 1 2 0) [63]).1 }
def aR3 : Sq:=(aR2.load master16 1).1
theorem l4 : (aR2.load master16 1).2 = (En.zero,[],20):=by kernel_rfl
def aR4 : Sq:=(aR3.remove 2).1
theorem r1 : (aR3.remove 2).2 = 0:=by kernel_rfl
theorem r2 : (aR4.remove 2).2 = 10:=by kernel_rfl
theorem n16 : (aR4.D.now.names asideB).length = 1:=by kernel_rfl
theorem i16 : aR4.ids = []:=by kernel_rfl
theorem last16 : aR4.last = 2:=by kernel_rfl
end
section
open Go.RowKit Go.Maps
theorem e16_fit : e16.Fit:=⟨by decide,by decide,by decide,by decide,by decide,by decide,by decide,by decide,by decide,by decide⟩
theorem y16_fit : y16.Fit:=⟨by decide,by decide,by decide,by decide,by decide,by decide,by decide,by decide,by decide,by decide⟩
theorem w16_fit : w16.Fit:=⟨by decide,by decide,by decide,by decide,by decide,by decide,by decide,by decide,by decide,by decide⟩
theorem slim0 : aB0.slim:=⟨by rw [zeros_length]; decide,fun k x hx => by simp [Mp.get] at hx⟩
theorem ok0 : SlOk c16 100 aQ0:=ok16 m32 (by decide) slim0 (by decide)
theorem uq0 : Up master16 aQ0:=up16 _ _
theorem ok1 : SlOk c16 22600 aQ1:=ok0.put e16 body16
theorem uq1 : Up master16 aQ1:=uq0.put ok0 rfl e16 body16
theorem ok2 : SlOk c16 45600 aQ2:=ok1.update y16
theorem uq2 : Up master16 aQ2:=uq1.update ok1 rfl y16
theorem ok3 : SlOk c16 46000 aQ3:=ok2.begin ab16
theorem uq3 : Up master16 aQ3:=uq2.begin ok2 ab16
theorem ok4 : SlOk c16 69000 aQ4:=ok3.stepped ab16
theorem uq4 : Up master16 aQ4:=uq3.step ok3 rfl ab16
theorem ok5 : SlOk c16 92000 aQ5:=ok4.stepped ab16
theorem uq5 : Up master16 aQ5:=uq4.step ok4 rfl ab16
theorem open5 : spoolOpen c16 aQ5.D aQ5.B = (aQ5.D,some aR0,0) ∧ Up master16 aR0 ∧ SlOk c16 92000 aR0:=by
  obtain ⟨lf,h1,h2,h3⟩:=reopen2 uq5 ok5 (c:=c16) rfl
  obtain ⟨lf',g1,_,gl,_⟩:=reopen uq5 ok5 (c:=c16) rfl
  have e : aR0 = { aQ5 with led:=ledPuts lf' }:=by unfold aR0; rw [gl]; rfl
  have e2 : ({ aQ5 with led:=ledPuts lf' } : Sq) = { aQ5 with led:=ledPuts lf }:=by
    exact Option.some.inj (Prod.mk.inj (Prod.mk.inj (g1.symm.trans h1)).2).1
  rw [e,e2]
  exact ⟨h1,h2,h3⟩
theorem len5 : aQ5.rows.length ≤ 100 ∧ aQ5.D.now.length ≤ 1000:=⟨of_decide_eq_true (by kernel_rfl),of_decide_eq_true (by kernel_rfl)⟩
theorem okr1 : SlOk c16 114500 aR1:=open5.2.2.put e16 other16
theorem roomE : (aR1.D.edit (fileB 1 2 0) [63]).1.Roomy 200000:=⟨of_decide_eq_true (by kernel_rfl),of_decide_eq_true (by kernel_rfl),of_decide_eq_true (by kernel_rfl),of_decide_eq_true (by kernel_rfl),of_decide_eq_true (by kernel_rfl)⟩
theorem sure1 : aR1.D.sure.length < 1000000000000:=of_decide_eq_true (by kernel_rfl)
theorem okr2 : SlOk c16 200000 aR2:=okr1.disk roomE (by decide)
theorem okr3 : SlOk c16 200404 aR3:=okr2.load 1
theorem okr4 : SlOk c16 200808 aR4:=okr3.remove 2
theorem has4 : aR4.rows.has 2 = false:=by kernel_rfl
theorem rem4 : aR4.remove 2 = (aR4,10):=by rw [remove_eq,if_pos has4]
theorem nmw : enName w16 = fileB 1 2 0:=by kernel_rfl
end
section
open Go.RowKit Go.Maps
section
variable {w0 w : World} {F0 : List Nat} {K L X : List Res} {P : SlPt} {c : Sc} {Q : Sq} {v : Value} {l : List Rcp}
theorem Sp.slTail (S : Sp w0 F0 w (slPs P c Q L)) : Sp w0 F0 w L:=S.drop.drop.drop.drop.drop.drop
theorem Sp.behind (S : Sp w0 F0 w (X ++ L)) : Sp w0 F0 w L:=by
  induction X with
  | nil => exact S
  | cons x X ih => exact ih S.drop
theorem Sp.appTos (S : Sp w0 F0 w (X ++ tosR v l :: L)) : TosAt w v l:=S.behind.tosAt
abbrev e16C (v : Value) : Array Value:=#[.int .u64 0,.string ⟨#[97,46,98]⟩,.int .u64 0,.int .u64 0,.string ⟨#[]⟩,.string ⟨#[]⟩,v,.int .u64 0,.int .u64 0,.int .i64 0]
abbrev x16C (v : Value) : Array Value:=#[.int .u64 1,.string ⟨#[97,46,98]⟩,.int .u64 1,.int .u64 0,.string ⟨#[]⟩,.string ⟨#[]⟩,v,.int .u64 0,.int .u64 0,.int .i64 0]
abbrev y16C (v : Value) : Array Value:=#[.int .u64 1,.string ⟨#[97,46,98]⟩,.int .u64 1,.int .u64 0,.string ⟨#[]⟩,.string ⟨#[]⟩,v,.int .u64 0,.int .u64 0,.int .i64 3]
abbrev z16C (v : Value) : Array Value:=#[.int .u64 1,.string ⟨#[97,46,98]⟩,.int .u64 1,.int .u64 1,.string ⟨#[]⟩,.string ⟨#[]⟩,v,.int .u64 0,.int .u64 0,.int .i64 3]
abbrev w16C (v : Value) : Array Value:=#[.int .u64 1,.string ⟨#[97,46,98]⟩,.int .u64 2,.int .u64 0,.string ⟨#[]⟩,.string ⟨#[]⟩,v,.int .u64 0,.int .u64 0,.int .i64 3]
abbrev o16C (v : Value) : Array Value:=#[.int .u64 0,.string ⟨#[]⟩,.int .u64 0,.int .u64 0,.string ⟨#[]⟩,.string ⟨#[]⟩,v,.int .u64 0,.int .u64 0,.int .i64 0]
theorem editS16 (n e : Bs) {p : Nat} {D : Dk} (S : Sp w0 F0 w (diskR p D :: L)) (hs : D.now.length < 1000000000000) (hs2 : D.sure.length < 1000000000000) (hn : n.length ≤ maxLen) (hd : e.length ≤ maxLen) : Calls Tryz.prog 32 #[.pointer (some ⟨p,0,none⟩),.string ⟨n.toArray⟩,.string ⟨e.toArray⟩] w fun r w2 => r = .returned (.int .i64 (D.edit n e).2) ∧ Sp w0 F0 w2 (diskR p (D.edit n e).1 :: L):=by
  obtain ⟨F,h,hk⟩:=S.disk
  exact (edit_any p F D n e w h hs hs2 hn hd).mono fun _ _ ⟨he,h2⟩ => ⟨he,hk _ _ h2⟩
theorem numsForm16 {l : List Nat} (S : Sp w0 F0 w (numsR v l :: L)) : ∃ a cap,v = .slice a l.length cap:=by
  rcases S.rowForm with ⟨rfl,h0⟩ | ⟨g,cap,rfl⟩
  · exact ⟨none,0,by rw [h0]⟩
  · exact ⟨_,cap,rfl⟩
theorem one16S (S : Sp w0 [] w L) : Calls Tryz.prog 10 #[.string ⟨#[97,46,98]⟩] w fun r w2 => ∃ v,r = .returned (.agg (e16C v)) ∧ Sp w0 [] w2 (tosR v rc16 :: L):=by
  have S1:=S.box (e16C (.slice (some ⟨w.heap.size + 1,0,none⟩) 1 1)) 40
  have S2 : Sp w0 [] _ (tosR (.slice (some ⟨(w.alloc (.cells (e16C (.slice (some ⟨w.heap.size + 1,0,none⟩) 1 1)) 40)).heap.size,0,none⟩) 1 1) rc16 :: _):=S1.rowLaid 100 3 1 [.string ⟨#[120]⟩,.string ⟨#[99]⟩,.int .i64 0] rfl (by decide)
  have c0:=S2.pull1.cell
  simp only [World.size_alloc] at S2 c0
  have HS:=Lib.hid ((Sp.pick [_,_] [0] (by decide) (S2)))
  clear S S1 S2
  go_enter Tryz.func10,Tryz.ntmps10
  go_upto_region 1 with (fail)
  go_wp2_with fail
  exact bodyPost_ret (v:=.agg (e16C (.slice (some ⟨w.heap.size + 1,0,none⟩) 1 1))) (by simp [results,Tryz.results10,go_sem,c0]) rfl ⟨_,rfl,HS.out⟩
theorem open1S16 {d b : Nat} (E : Env w0) (S : Sp w0 [] w (diskR d Dk.new :: bxR b aB0 :: L)) : Calls Tryz.prog 7 #[.pointer (some ⟨d,0,none⟩),.pointer (some ⟨b,0,none⟩),.string ⟨master16.toArray⟩,.int .u64 2,.int .u64 100] w fun e w2 => ∃ P : SlPt,P.d = d ∧ P.b = b ∧ e = .returned (.tuple #[.pointer (some ⟨P.s,0,none⟩),.int .i64 0]) ∧ Sp w0 [] w2 (slPs P c16 aQ0 L):=by
  refine (spoolOpenS c16 Dk.new aB0 100 m32 (fun hg => fit16 m32 slim0 (by decide) hg) E S).mono fun e w2 h => ?_
  unfold SlPost at h
  rw [first16 (c:=c16) (B:=aB0) (by decide)] at h
  exact h
theorem open2S16 {d b : Nat} (E : Env w0) (S : Sp w0 [] w (diskR d aQ5.D :: bxR b aQ5.B :: L)) : Calls Tryz.prog 7 #[.pointer (some ⟨d,0,none⟩),.pointer (some ⟨b,0,none⟩),.string ⟨master16.toArray⟩,.int .u64 2,.int .u64 100] w fun e w2 => ∃ P : SlPt,P.d = d ∧ P.b = b ∧ e = .returned (.tuple #[.pointer (some ⟨P.s,0,none⟩),.int .i64 0]) ∧ Sp w0 [] w2 (slPs P c16 aR0 L):=by
  refine (spoolOpenS c16 aQ5.D aQ5.B 92000 m32 (fun _ => again_fit uq5 ok5 rfl (by decide) len5.1 len5.2) E S).mono fun e w2 h => ?_
  unfold SlPost at h
  rw [open5.1] at h
  exact h
theorem put1S16 (E : Env w0) (S : Sp w0 [] w (slPs P c16 aQ0 (tosR v rc16 :: K))) : Calls Tryz.prog 11 #[.pointer (some ⟨P.s,0,none⟩),.agg (e16C v),.string ⟨#[98,111,100,121]⟩] w fun r w2 => r = .returned (.tuple #[.int .u64 1,.int .i64 0]) ∧ Sp w0 [] w2 (slPs P c16 aQ1 (tosR v rc16 :: K)):=by
  have h:=slPutS (v:=v) e16 body16 100 e16_fit ok0 (by decide) E (fun w' X S' => Sp.appTos (v:=v) (l:=rc16) S') S
  rw [a1] at h
  exact h
theorem put2S16 (E : Env w0) (S : Sp w0 [] w (slPs P c16 aR0 (tosR v rc16 :: K))) : Calls Tryz.prog 11 #[.pointer (some ⟨P.s,0,none⟩),.agg (e16C v),.string ⟨#[111,116,104,101,114]⟩] w fun r w2 => r = .returned (.tuple #[.int .u64 2,.int .i64 0]) ∧ Sp w0 [] w2 (slPs P c16 aR1 (tosR v rc16 :: K)):=by
  have h:=slPutS (v:=v) e16 other16 92000 e16_fit open5.2.2 (by decide) E (fun w' X S' => Sp.appTos (v:=v) (l:=rc16) S') S
  rw [a2] at h
  exact h
theorem load1S16 (E : Env w0) (S : Sp w0 [] w (slPs P c16 aQ1 K)) : Calls Tryz.prog 14 #[.pointer (some ⟨P.s,0,none⟩),.int .u64 1] w fun r w2 => ∃ va vc,r = .returned (.tuple #[.agg (x16C (.slice va 1 vc)),.string ⟨#[98,111,100,121]⟩,.int .i64 0]) ∧ Sp w0 [] w2 (tosR (.slice va 1 vc) rc16 :: slPs P c16 aQ1 K):=by
  have h:=slLoadS 1 22600 (by decide) ok1 (by decide) E S
  rw [show c16.master = master16 from rfl,(uq1.load ok1 1).1,l1] at h
  refine h.mono fun r w2 ⟨v,hr,S2⟩ => ?_
  obtain ⟨va,vc,rfl⟩:=S2.tosAt.form
  exact ⟨va,vc,hr,S2⟩
theorem load2S16 (E : Env w0) (S : Sp w0 [] w (slPs P c16 aQ2 K)) : Calls Tryz.prog 14 #[.pointer (some ⟨P.s,0,none⟩),.int .u64 1] w fun r w2 => ∃ va vc,r = .returned (.tuple #[.agg (z16C (.slice va 1 vc)),.string ⟨#[98,111,100,121]⟩,.int .i64 0]) ∧ Sp w0 [] w2 (tosR (.slice va 1 vc) rc16 :: slPs P c16 aQ2 K):=by
  have h:=slLoadS 1 45600 (by decide) ok2 (by decide) E S
  rw [show c16.master = master16 from rfl,(uq2.load ok2 1).1,l2] at h
  refine h.mono fun r w2 ⟨v,hr,S2⟩ => ?_
  obtain ⟨va,vc,rfl⟩:=S2.tosAt.form
  exact ⟨va,vc,hr,S2⟩
theorem load3S16 (E : Env w0) (S : Sp w0 [] w (slPs P c16 aR0 K)) : Calls Tryz.prog 14 #[.pointer (some ⟨P.s,0,none⟩),.int .u64 1] w fun r w2 => ∃ va vc,r = .returned (.tuple #[.agg (w16C (.slice va 1 vc)),.string ⟨#[98,111,100,121]⟩,.int .i64 0]) ∧ Sp w0 [] w2 (tosR (.slice va 1 vc) rc16 :: slPs P c16 aR0 K):=by
  have h:=slLoadS 1 92000 (by decide) open5.2.2 (by decide) E S
  rw [show c16.master = master16 from rfl,(open5.2.1.load open5.2.2 1).1,l3] at h
  refine h.mono fun r w2 ⟨v,hr,S2⟩ => ?_
  obtain ⟨va,vc,rfl⟩:=S2.tosAt.form
  exact ⟨va,vc,hr,S2⟩
theorem load4S16 (E : Env w0) (S : Sp w0 [] w (slPs P c16 aR2 K)) : Calls Tryz.prog 14 #[.pointer (some ⟨P.s,0,none⟩),.int .u64 1] w fun r w2 => ∃ va vc,r = .returned (.tuple #[.agg (o16C (.slice va 0 vc)),.string ⟨#[]⟩,.int .i64 20]) ∧ Sp w0 [] w2 (tosR (.slice va 0 vc) [] :: slPs P c16 aR3 K):=by
  have h:=slLoadS 1 200000 (by decide) okr2 (by decide) E S
  rw [show c16.master = master16 from rfl,l4] at h
  refine h.mono fun r w2 ⟨v,hr,S2⟩ => ?_
  obtain ⟨va,vc,rfl⟩:=S2.tosAt.form
  exact ⟨va,vc,hr,S2⟩
theorem upd1S16 (E : Env w0) (S : Sp w0 [] w (slPs P c16 aQ1 (tosR v rc16 :: K))) : Calls Tryz.prog 21 #[.pointer (some ⟨P.s,0,none⟩),.agg (y16C v)] w fun r w2 => r = .returned (.int .i64 0) ∧ Sp w0 [] w2 (slPs P c16 aQ2 (tosR v rc16 :: K)):=by
  have h:=slUpdateS (v:=v) y16 22600 y16_fit ok1 (by decide) E (fun w' X S' => Sp.appTos (v:=v) (l:=rc16) S') S
  rw [u1] at h
  exact h
theorem beg1S16 (S : Sp w0 [] w (slPs P c16 aQ2 K)) : Calls Tryz.prog 13 #[.pointer (some ⟨P.s,0,none⟩),.string ⟨#[97,46,98]⟩] w fun r w2 => r = .returned (.int .i64 0) ∧ Sp w0 [] w2 (slPs P c16 aQ3 K):=by
  have h:=slBeginS ab16 45600 (by decide) ok2 (by decide) S
  rw [b1] at h
  exact h
theorem stp1S16 (E : Env w0) (S : Sp w0 [] w (slPs P c16 aQ3 K)) : Calls Tryz.prog 12 #[.pointer (some ⟨P.s,0,none⟩),.string ⟨#[97,46,98]⟩] w fun r w2 => r = .returned (.tuple #[.bool false,.int .i64 0]) ∧ Sp w0 [] w2 (slPs P c16 aQ4 K):=by
  have h:=slStepS ab16 46000 (by decide) ok3 (by decide) E S
  rw [s1] at h
  exact h
theorem stp2S16 (E : Env w0) (S : Sp w0 [] w (slPs P c16 aQ4 K)) : Calls Tryz.prog 12 #[.pointer (some ⟨P.s,0,none⟩),.string ⟨#[97,46,98]⟩] w fun r w2 => r = .returned (.tuple #[.bool true,.int .i64 0]) ∧ Sp w0 [] w2 (slPs P c16 aQ5 K):=by
  have h:=slStepS ab16 69000 (by decide) ok4 (by decide) E S
  rw [s2] at h
  exact h
theorem sta1S16 (S : Sp w0 [] w (slPs P c16 aQ5 K)) : Calls Tryz.prog 16 #[.pointer (some ⟨P.s,0,none⟩),.string ⟨#[97,46,98]⟩] w fun r w2 => r = .returned (.agg #[.int .u64 2,.int .u64 0]) ∧ Sp w0 [] w2 (slPs P c16 aQ5 K):=by
  have h:=slStateS ab16 (by decide) S
  rw [st16] at h
  exact h
theorem name1S16 (E : Env w0) (S : Sp w0 [] w K) : Calls Tryz.prog 33 #[.agg (w16C v)] w fun r w2 => r = .returned (.string ⟨(fileB 1 2 0).toArray⟩) ∧ Sp w0 [] w2 K:=by
  have h:=enNameS (v:=v) w16 E w16_fit S
  rw [nmw] at h
  exact h
theorem slEditS (n e : Bs) (hs : Q.D.now.length < 1000000000000) (hs2 : Q.D.sure.length < 1000000000000) (hn : n.length ≤ maxLen) (hd : e.length ≤ maxLen) (S : Sp w0 [] w (slPs P c Q K)) : Calls Tryz.prog 32 #[.pointer (some ⟨P.d,0,none⟩),.string ⟨n.toArray⟩,.string ⟨e.toArray⟩] w fun r w2 => r = .returned (.int .i64 (Q.D.edit n e).2) ∧ Sp w0 [] w2 (slPs P c { Q with D:=(Q.D.edit n e).1 } K):=by
  unfold slPs at S
  have h:=editS16 n e ((Sp.pick [_,_,_,_,_,_] [2,0,1,3,4,5] (by decide) (S))) hs hs2 hn hd
  refine h.mono fun r w2 ⟨hr,S2⟩ => ⟨hr,?_⟩
  unfold slPs
  exact (Sp.pick [_,_,_,_,_,_] [1,2,0,3,4,5] (by decide) (S2))
theorem edit1S16 (S : Sp w0 [] w (slPs P c16 aR1 K)) : Calls Tryz.prog 32 #[.pointer (some ⟨P.d,0,none⟩),.string ⟨(fileB 1 2 0).toArray⟩,.string ⟨#[63]⟩] w fun r w2 => ∃ z,r = .returned (.int .i64 z) ∧ Sp w0 [] w2 (slPs P c16 aR2 K) :=
  (slEditS (fileB 1 2 0) [63] (Nat.lt_of_le_of_lt okr1.room.now (by decide)) sure1 (of_decide_eq_true (by kernel_rfl)) (by decide) S).mono fun r w2 h => ⟨_,h.1,h.2⟩
theorem rem1S16 (E : Env w0) (S : Sp w0 [] w (slPs P c16 aR3 K)) : Calls Tryz.prog 22 #[.pointer (some ⟨P.s,0,none⟩),.int .u64 2] w fun r w2 => r = .returned (.int .i64 0) ∧ Sp w0 [] w2 (slPs P c16 aR4 K):=by
  have h:=slRemoveS 2 200404 (by decide) okr3 (by decide) E S
  rw [r1] at h
  exact h
theorem rem2S16 (E : Env w0) (S : Sp w0 [] w (slPs P c16 aR4 K)) : Calls Tryz.prog 22 #[.pointer (some ⟨P.s,0,none⟩),.int .u64 2] w fun r w2 => r = .returned (.int .i64 10) ∧ Sp w0 [] w2 (slPs P c16 aR4 K):=by
  have h:=slRemoveS 2 200808 (by decide) okr4 (by decide) E S
  rw [rem4] at h
  dsimp only at h
  exact h
theorem bad1S16 (S : Sp w0 [] w (slPs P c16 aR4 K)) : Calls Tryz.prog 17 #[.pointer (some ⟨P.s,0,none⟩)] w fun r w2 => ∃ va vc,r = .returned (.slice va 1 vc) ∧ Sp w0 [] w2 (slPs P c16 aR4 K):=by
  refine (slBadS (Nat.lt_of_le_of_lt okr4.room.now (by decide)) S).mono fun r w2 ⟨v,hr,S2⟩ => ?_
  obtain ⟨va,vc,rfl⟩:=S2.textSlice
  rw [n16] at hr
  exact ⟨va,vc,hr,S2.drop⟩
theorem ids1S16 (S : Sp w0 [] w (slPs P c16 aR4 K)) : Calls Tryz.prog 30 #[.pointer (some ⟨P.s,0,none⟩)] w fun r w2 => ∃ va vc,r = .returned (.slice va 0 vc) ∧ Sp w0 [] w2 (slPs P c16 aR4 K):=by
  refine (slIdsS (Nat.le_trans okr4.len (by decide)) S).mono fun r w2 ⟨v,hr,S2⟩ => ?_
  rw [i16] at S2
  obtain ⟨va,vc,rfl⟩:=numsForm16 S2
  exact ⟨va,vc,hr,S2.drop⟩
theorem last1S16 (S : Sp w0 [] w (slPs P c16 aR4 K)) : Calls Tryz.prog 20 #[.pointer (some ⟨P.s,0,none⟩)] w fun r w2 => r = .returned (.int .u64 2) ∧ Sp w0 [] w2 (slPs P c16 aR4 K):=by
  have h:=slLastS S
  rw [last16] at h
  exact h
theorem awake16S (E : Env w0) (S : Sp w0 [] w K) : Calls Tryz.prog 6 #[] w fun e w2 => e = .returned (.bool true) ∧ Sp w0 [] w2 K:=by
  have HE:=Lib.hid E
  have HS0:=Lib.hid S
  have hmk : ∀ (n : Nat) (z : Int),z = n → n ≤ 1000000 → ∀ W : World,(Instr.makeSlice 79 (.int .i64 z) (.int .i64 z)).run Tryz.prog W = .ok (.slice (some ⟨W.heap.size,0,none⟩) n n) (W.alloc (.cells (rowB (zeros n)) 5)):=fun n z hz hn W => by subst hz; exact makeZ n hn W
  have hcv : ∀ (n : Nat) (W : World),(convert 79 9 (.slice (some ⟨W.heap.size,0,none⟩) n n)).run Tryz.prog (W.alloc (.cells (rowB (zeros n)) 5)) = .ok (.string ⟨(zeros n).toArray⟩) (W.alloc (.cells (rowB (zeros n)) 5)):=fun n W => textZ n _ _ (fun j hj => cellZ n W j hj)
  have hm:=hmk 2000 2000 rfl (by decide)
  have hc:=hcv 2000
  clear S E hmk hcv
  go_enter Tryz.func6,Tryz.ntmps6
  go_wp2_with fail
  refine (newS HS0.out).mono ?_
  rintro r w1 ⟨d,rfl,S⟩
  have HS1:=Lib.hid (S.new (.cells (rowB (zeros 2000)) 5))
  clear S HS0
  go_wp2_with fail
  refine (idealS (zeros 2000) HS1.out).mono ?_
  rintro r w2 ⟨b,rfl,S⟩
  have HS2 : Hid (Sp w0 [] w2 (diskR d Dk.new :: bxR b aB0 :: K)):=S.pull1
  clear S HS1 hm hc
  go_wp2_with fail
  refine (open1S16 HE.out HS2.out).mono ?_
  rintro r w3 ⟨P,rfl,rfl,rfl,S⟩
  have HS3:=Lib.hid S
  clear S HS2
  go_wp2_with fail
  refine (one16S HS3.out).mono ?_
  rintro r w4 ⟨v1,rfl,S⟩
  have HS4 : Hid (Sp w0 [] w4 (slPs P c16 aQ0 (tosR v1 rc16 :: K))):=by unfold slPs at S ⊢; exact (Sp.pick [_,_,_,_,_,_,_] [1,2,3,4,5,6,0] (by decide) (S))
  clear S HS3
  go_wp2_with fail
  refine (put1S16 HE.out HS4.out).mono ?_
  rintro r w5 ⟨rfl,S⟩
  have HS5:=Lib.hid S
  clear S HS4
  go_wp2_with fail
  refine (load1S16 HE.out HS5.out).mono ?_
  rintro r w6 ⟨va2,vc2,rfl,S⟩
  have S1:=S.box (x16C (.slice va2 1 vc2)) 40
  have c1:=S1.cell
  have HS6:=Lib.hid S1
  clear S S1 HS5
  go_upto_region 8 with (fail)
  generalize w6.alloc _ = w7 at *
  generalize w6.heap.size = qx at *
  have HS7:=Lib.hid (HS6.out.box (y16C (.slice va2 1 vc2)) 40)
  clear HS6
  go_upto_region 10 with (fail)
  generalize w7.alloc _ = w8 at *
  generalize w7.heap.size = qy at *
  clear c1
  have HS8 : Hid (Sp w0 [] _ (slPs P c16 aQ1 (tosR (.slice va2 1 vc2) rc16 :: boxR qy (y16C (.slice va2 1 vc2)) 40 :: tosR v1 rc16 :: K))):=Lib.hid (by have h:=HS7.out; unfold slPs at h ⊢; exact (Sp.pick [_,_,_,_,_,_,_,_,_] [3,4,5,6,7,8,2,0] (by decide) (h)))
  have c2:=HS8.out.slTail.drop.cell
  clear HS7
  go_wp2_with fail
  refine (upd1S16 HE.out HS8.out).mono ?_
  rintro r w9 ⟨rfl,S⟩
  have HS9:=Lib.hid S
  clear S HS8 c2
  go_wp2_with fail
  refine (load2S16 HE.out HS9.out).mono ?_
  rintro r w10 ⟨va3,vc3,rfl,S⟩
  have HS10:=Lib.hid (S.box (z16C (.slice va3 1 vc3)) 40)
  clear S HS9
  go_upto_region 12 with (fail)
  generalize w10.alloc _ = w11 at *
  generalize w10.heap.size = qz at *
  have HS11 : Hid (Sp w0 [] w11 (slPs P c16 aQ2 (boxR qz (z16C (.slice va3 1 vc3)) 40 :: tosR (.slice va3 1 vc3) rc16 :: tosR (.slice va2 1 vc2) rc16 :: boxR qy (y16C (.slice va2 1 vc2)) 40 :: tosR v1 rc16 :: K))):=Lib.hid (by have h:=HS10.out; unfold slPs at h ⊢; exact (Sp.pick [_,_,_,_,_,_,_,_] [2,3,4,5,6,7,0,1] (by decide) (h)))
  clear HS10
  go_wp2_with fail
  refine (beg1S16 HS11.out).mono ?_
  rintro r w12 ⟨rfl,S⟩
  have HS12:=Lib.hid S
  clear S HS11
  go_wp2_with fail
  refine (stp1S16 HE.out HS12.out).mono ?_
  rintro r w13 ⟨rfl,S⟩
  have HS13:=Lib.hid S
  clear S HS12
  go_wp2_with fail
  refine (stp2S16 HE.out HS13.out).mono ?_
  rintro r w14 ⟨rfl,S⟩
  have HS14:=Lib.hid S
  clear S HS13
  go_wp2_with fail
  refine (sta1S16 HS14.out).mono ?_
  rintro r w15 ⟨rfl,S⟩
  have HS15:=Lib.hid (S.box #[.int .u64 2,.int .u64 0] 53)
  clear S HS14
  go_upto_region 16 with (fail)
  generalize w15.alloc _ = w16 at *
  generalize w15.heap.size = qs at *
  have HS16 : Hid (Sp w0 [] w16 (diskR P.d aQ5.D :: bxR P.b aQ5.B :: boxR P.s (slCells P c16.master aQ5.last) 90 :: mapNR 34 Row3.agg P.m aQ5.rows :: ledR P.l P.d c16.step c16.most aQ5.led :: ringR P.r P.d aQ5.ring :: boxR qs #[.int .u64 2,.int .u64 0] 53 :: boxR qz (z16C (.slice va3 1 vc3)) 40 :: tosR (.slice va3 1 vc3) rc16 :: tosR (.slice va2 1 vc2) rc16 :: boxR qy (y16C (.slice va2 1 vc2)) 40 :: tosR v1 rc16 :: K)):=Lib.hid (by have h:=HS15.out; unfold slPs at h; exact (Sp.pick [_,_,_,_,_,_,_] [3,4,1,2,5,6,0] (by decide) (h)))
  clear HS15
  go_wp2_with fail
  refine (open2S16 HE.out HS16.out).mono ?_
  rintro r w17 ⟨⟨s2,d2,b2,l2,r2,m2⟩,h1,h2,rfl,S⟩
  dsimp only at h1 h2
  subst h1 h2
  have HS17:=Lib.hid S
  clear S HS16
  dsimp only at HS17 ⊢
  go_wp2_with fail
  refine (load3S16 HE.out HS17.out).mono ?_
  rintro r w18 ⟨va4,vc4,rfl,S⟩
  have HS18:=Lib.hid (S.box (w16C (.slice va4 1 vc4)) 40)
  clear S HS17
  go_upto_region 20 with (fail)
  generalize w18.alloc _ = w19 at *
  generalize w18.heap.size = qw at *
  have HS19 : Hid (Sp w0 [] w19 (slPs ⟨s2,P.d,P.b,l2,r2,m2⟩ c16 aR0 (boxR qw (w16C (.slice va4 1 vc4)) 40 :: tosR (.slice va4 1 vc4) rc16 :: boxR P.s (slCells P c16.master aQ5.last) 90 :: mapNR 34 Row3.agg P.m aQ5.rows :: ledR P.l P.d c16.step c16.most aQ5.led :: ringR P.r P.d aQ5.ring :: boxR qs #[.int .u64 2,.int .u64 0] 53 :: boxR qz (z16C (.slice va3 1 vc3)) 40 :: tosR (.slice va3 1 vc3) rc16 :: tosR (.slice va2 1 vc2) rc16 :: boxR qy (y16C (.slice va2 1 vc2)) 40 :: tosR v1 rc16 :: K))):=Lib.hid (by have h:=HS18.out; unfold slPs at h ⊢; exact (Sp.pick [_,_,_,_,_,_,_,_] [2,3,4,5,6,7,0,1] (by decide) (h)))
  clear HS18
  go_wp2_with fail
  refine (one16S HS19.out).mono ?_
  rintro r w20 ⟨v5,rfl,S⟩
  have HS20 : Hid (Sp w0 [] w20 (slPs ⟨s2,P.d,P.b,l2,r2,m2⟩ c16 aR0 (tosR v5 rc16 :: boxR qw (w16C (.slice va4 1 vc4)) 40 :: tosR (.slice va4 1 vc4) rc16 :: boxR P.s (slCells P c16.master aQ5.last) 90 :: mapNR 34 Row3.agg P.m aQ5.rows :: ledR P.l P.d c16.step c16.most aQ5.led :: ringR P.r P.d aQ5.ring :: boxR qs #[.int .u64 2,.int .u64 0] 53 :: boxR qz (z16C (.slice va3 1 vc3)) 40 :: tosR (.slice va3 1 vc3) rc16 :: tosR (.slice va2 1 vc2) rc16 :: boxR qy (y16C (.slice va2 1 vc2)) 40 :: tosR v1 rc16 :: K))):=Lib.hid (by have h:=S; unfold slPs at h ⊢; exact (Sp.pick [_,_,_,_,_,_,_] [1,2,3,4,5,6,0] (by decide) (h)))
  clear S HS19
  go_wp2_with fail
  refine (put2S16 HE.out HS20.out).mono ?_
  rintro r w21 ⟨rfl,S⟩
  have cw:=S.slTail.drop.cell
  have HS21:=Lib.hid S
  clear S HS20
  go_wp2_with fail
  refine (name1S16 HE.out HS21.out).mono ?_
  rintro r w22 ⟨rfl,S⟩
  have HS22:=Lib.hid S
  clear S HS21 cw
  go_wp2_with fail
  refine (edit1S16 HS22.out).mono ?_
  rintro r w23 ⟨z23,rfl,S⟩
  have HS23:=Lib.hid S
  clear S HS22
  go_wp2_with fail
  refine (load4S16 HE.out HS23.out).mono ?_
  rintro r w24 ⟨va6,vc6,rfl,S⟩
  have HS24:=Lib.hid (S.box (o16C (.slice va6 0 vc6)) 40)
  clear S HS23
  go_upto_region 23 with (fail)
  generalize w24.alloc _ = w25 at *
  generalize w24.heap.size = ql at *
  have HS25 : Hid (Sp w0 [] w25 (slPs ⟨s2,P.d,P.b,l2,r2,m2⟩ c16 aR3 (boxR ql (o16C (.slice va6 0 vc6)) 40 :: tosR (.slice va6 0 vc6) [] :: tosR v5 rc16 :: boxR qw (w16C (.slice va4 1 vc4)) 40 :: tosR (.slice va4 1 vc4) rc16 :: boxR P.s (slCells P c16.master aQ5.last) 90 :: mapNR 34 Row3.agg P.m aQ5.rows :: ledR P.l P.d c16.step c16.most aQ5.led :: ringR P.r P.d aQ5.ring :: boxR qs #[.int .u64 2,.int .u64 0] 53 :: boxR qz (z16C (.slice va3 1 vc3)) 40 :: tosR (.slice va3 1 vc3) rc16 :: tosR (.slice va2 1 vc2) rc16 :: boxR qy (y16C (.slice va2 1 vc2)) 40 :: tosR v1 rc16 :: K))):=Lib.hid (by have h:=HS24.out; unfold slPs at h ⊢; exact (Sp.pick [_,_,_,_,_,_,_,_] [2,3,4,5,6,7,0,1] (by decide) (h)))
  clear HS24
  go_wp2_with fail
  refine (rem1S16 HE.out HS25.out).mono ?_
  rintro r w26 ⟨rfl,S⟩
  have HS26:=Lib.hid S
  clear S HS25
  go_wp2_with fail
  refine (rem2S16 HE.out HS26.out).mono ?_
  rintro r w27 ⟨rfl,S⟩
  have HS27:=Lib.hid S
  clear S HS26
  go_wp2_with fail
  refine (slOpenNilS (b:=P.b) ⟨master16,1,1⟩ HS27.out).mono ?_
  rintro r w28 ⟨rfl,S⟩
  have cw:=S.slTail.drop.drop.drop.cell
  have cs:=S.slTail.drop.drop.drop.drop.drop.drop.drop.drop.drop.cell
  have cz:=S.slTail.drop.drop.drop.drop.drop.drop.drop.drop.drop.drop.cell
  have HS28:=Lib.hid S
  clear S HS27
  go_wp2_with fail
  refine (bad1S16 HS28.out).mono ?_
  rintro r w29 ⟨va7,vc7,rfl,S⟩
  have HS29:=Lib.hid S
  clear S HS28 cw cs cz
  go_wp2_with fail
  refine (ids1S16 HS29.out).mono ?_
  rintro r w30 ⟨va8,vc8,rfl,S⟩
  have HS30:=Lib.hid S
  clear S HS29
  go_wp2_with fail
  refine (last1S16 HS30.out).mono ?_
  rintro r w31 ⟨rfl,S⟩
  have HS31:=Lib.hid S
  clear S HS30
  go_wp2
  go_ret
  exact ⟨rfl,HS31.out.slTail.drop.drop.drop.drop.drop.drop.drop.drop.drop.drop.drop.drop.drop.drop.drop⟩
end
end
section
open Go.RowKit Go.Maps
theorem spoolAgain_walk (ib : Bool) (dr : Bs) (st mo : Nat) (v : Value) (l : List A16v) (w : World) (E : Env w) (hl : Acts16At w v l) :
    Calls Tryz.prog 5 #[cfg16Agg ib dr st mo,v] w fun e w2 => e = .returned (.bool true) ∧ Ext [] w w2 :=
  spoolAgain_walk0 ib dr st mo v l w E hl (fun _ _ S => awake16S E S)
end
end Go.Proofs.YtangbdahnmomlaaGreatDoor
