/- addr: letters, labels, domains, local parts. Conditions: the lengths fit; what Go's variables hold. addr: labels, parts of a text. Conditions: the -/
import Derived.Laws.IdiomStrings
import Derived.Test.YtangbdahnmomlaaGreatDoorBu01
import Derived.Test.YtangbdahnmomlaaGreatDoorBu02
import Derived.Test.YtangbdahnmomlaaGreatDoorBu04
import Derived.Test.YtangbdahnmomlaaGreatDoorBu05
import Derived.Test.YtangbdahnmomlaaGreatDoorBu08
set_option linter.unnecessarySimpa false
set_option linter.unusedSimpArgs false
set_option linter.unusedVariables false
set_option maxHeartbeats 2000000
set_option maxRecDepth 100000
namespace Go.Proofs.YtangbdahnmomlaaGreatDoor
section
open Go.RowKit
theorem MC (s:ByteArray) (k:Nat) (h:k<s.size):s.data.toList.take (k+1)=s.data.toList.take k++[s[k]]:=by
 rw [List.take_succ_eq_append_getElem (by simpa using h)];rfl
theorem Jf (c:UInt8) (w:World):Calls Tryz.prog 208 #[.int .u8 c.toNat] w fun e w2=>e=.returned (.bool (Rb c))∧w=w2:=by
 have hc:=c.toNat_lt
 go_enter Tryz.func208,Tryz.ntmps208
 go_wp2
 all_goals (go_ret;refine ⟨dw ?_,rfl⟩;unfold Rb;rw [Bool.eq_iff_iff];simp;omega)
theorem F8 (c:UInt8) (w:World):Calls Tryz.prog 175 #[.int .u8 c.toNat] w fun e w2=>e=.returned (.bool (Dr c))∧w=w2:=by
 have H:=Lib.hid (Jf c w)
 have HD:Hid (((c.toNat:Int) == 45)=(c == 45)):=by
  unfold Hid
  rw [Bool.eq_iff_iff,beq_iff_eq,beq_iff_eq,← UInt8.toNat_inj]
  show ((c.toNat:Int)=45)↔c.toNat=45
  omega
 go_enter Tryz.func175,Tryz.ntmps175
 go_wp2_with fail
 refine H.out.mono ?_
 rintro e w' ⟨rfl,rfl⟩
 cases hl:Rb c with
 | true =>
  have HV:Hid (Dr c=true):=by unfold Hid Dr;rw [hl];rfl
  clear hl
  go_wp2
  go_ret
  exact ⟨dw HV.out.symm,rfl⟩
 | false =>
  have HV:Hid (Dr c=(c == 45)):=by unfold Hid Dr;rw [hl];rfl
  clear hl
  go_wp2
  go_ret
  exact ⟨dw (by rw [HV.out,HD.out]),rfl⟩
theorem ME (c:UInt8) (w:World):Calls Tryz.prog 209 #[.int .u8 c.toNat] w fun e w2=>e=.returned (.bool (zS c))∧w=w2:=by
 have hc:=c.toNat_lt
 go_enter Tryz.func209,Tryz.ntmps209
 go_wp2
 all_goals (go_ret;refine ⟨dw ?_,rfl⟩;unfold zS;rw [Bool.eq_iff_iff];simp;omega)
theorem KL (g:Nat) (p:UInt8→Bool) (eg:∀ args w,(callFunc g args).run Tryz.prog w=.ok (.enter g args) w) (hg:∀ (c:UInt8) (w:World),Calls Tryz.prog g #[.int .u8 c.toNat] w fun e w2=>e=.returned (.bool (p c))∧w=w2)
  (s:ByteArray) (w:World) (hs:s.size≤maxLen) :
  Calls Tryz.prog 174 #[.string s,.func (.func g) #[] #[]] w fun e w2=>e=.returned (.bool (zT p s.data.toList))∧w=w2:=by
 unfold maxLen at hs
 have HG:=Lib.hid hg
 clear hg
 go_enter Tryz.func174,Tryz.ntmps174
 go_wp2_with fail
 go_loop [8] (fun i=>∃ k:Nat,i=.int .i64 k∧k≤s.size∧(s.data.toList.take k).all p=true) (fun i=>s.size - (intOf i).toNat)
 case atStart=>exact ⟨0,rfl,Nat.zero_le _,rfl⟩
 case round =>
  obtain ⟨k,rfl,hk,hall⟩:=hrel
  have Fj:=Lib.hid hall
  clear hall
  by_cases hlt:k<s.size
  ·have HST:Hid (s.data.toList.take (k+1)=s.data.toList.take k++[s[k]]):=MC s k hlt
   cases hp:p s[k] with
   | true =>
    have HP:=Lib.hid hp
    clear hp
    go_wp2_with (go_at_fn g;refine (HG.out _ _).mono ?_;rw [HP.out];rintro e w' ⟨rfl,rfl⟩)
    go_round
    case rel=>exact ⟨k+1,by go_num,by omega,by rw [HST.out,List.all_append,Fj.out];simp [HP.out]⟩
    case measure=>simp [intOf];omega
   | false =>
    have HP:Hid (zT p s.data.toList=false):=by
     unfold Hid zT
     have:s.data.toList.all p=false:=by
      rw [← Bool.not_eq_true,List.all_eq_true]
      intro h
      have:=h s[k] (by simp [ByteArray.getElem_eq_getElem_data])
      rw [hp] at this
      cases this
     rw [this];rfl
    have xm:=Lib.hid hp
    clear hp
    go_wp2_with (go_at_fn g;refine (HG.out _ _).mono ?_;rw [xm.out];rintro e w' ⟨rfl,rfl⟩)
    go_ret
    exact ⟨dw HP.out.symm,rfl⟩
  ·have HV:Hid (zT p s.data.toList = !s.data.toList.isEmpty):=by
    have:=Fj.out
    rw [List.take_of_length_le (by simp;omega)] at this
    unfold Hid zT
    rw [this];rfl
   go_wp2
   go_ret
   refine ⟨dw ?_,rfl⟩
   rw [HV.out,ByteArray.toList_eq]
end
section
open Go.RowKit
theorem R3 (s:ByteArray) (h:0<s.size):s.data.toList.head? = some s[0]:=by
 rw [List.head?_eq_getElem?,List.getElem?_eq_getElem (by simpa using h)];rfl
theorem last_at (s:ByteArray) (h:0<s.size):s.data.toList.getLast? = some (s[s.size - 1]'(by omega)):=by
 rw [List.getLast?_eq_getElem?,List.getElem?_eq_getElem (by simp;omega)]
 simp [ByteArray.getElem_eq_getElem_data]
theorem KM (c:UInt8):((c.toNat:Int) != 45) = !(some c == some 45):=by
 rw [Bool.eq_iff_iff]
 simp only [bne_iff_ne,Bool.not_eq_true',beq_eq_false_iff_ne,ne_eq,Option.some.injEq,← UInt8.toNat_inj]
 show ¬((c.toNat:Int)=45)↔¬(c.toNat=45)
 omega
theorem MF (s:ByteArray) (w:World) (hs:s.size≤maxLen):Calls Tryz.prog 136 #[.string s] w fun e w2=>e=.returned (.bool (pz s.data.toList))∧w=w2:=by
 have eg:=enters_of Tryz.func175 (by kernel_rfl) rfl
 have H:=Lib.hid (KL 175 Dr eg (fun c w=>F8 c w) s w hs)
 have hlen:s.data.toList.length=s.size:=by simp
 have hD:Hid (pz s.data.toList=(decide (s.size≤63) && (zT Dr s.data.toList && (!(s.data.toList.head? == some 45) && !(s.data.toList.getLast? == some 45))))):=by
  unfold Hid pz
  rw [hlen]
 unfold maxLen at hs
 clear hlen eg
 by_cases hl:s.size≤63
 ·have hl':(s.size:Int)≤63:=by omega
  cases ha:zT Dr s.data.toList with
  | false =>
   have HA:=Lib.hid ha
   clear ha
   go_enter Tryz.func136,Tryz.ntmps136
   go_wp2_with (go_at_call 174;refine H.out.mono ?_;rw [HA.out];rintro e w' ⟨rfl,rfl⟩)
   go_ret
   refine ⟨dw ?_,rfl⟩
   rw [hD.out,HA.out]
   simp
  | true =>
   have HA:=Lib.hid ha
   have h0:0<s.size:=by
    rcases Nat.eq_zero_or_pos s.size with h | h
    ·exfalso
     unfold zT at ha
     have:s.data.toList=[]:=List.eq_nil_of_length_eq_zero (by simpa using h)
     rw [this] at ha
     simp at ha
    ·exact h
   have HV:Hid (pz s.data.toList=(((s[0].toNat:Int) != 45) && (((s[s.size - 1]'(by omega)).toNat:Int) != 45))):=by
    unfold Hid
    rw [hD.out,ha,R3 s h0,last_at s h0,KM,KM]
    simp [hl]
   clear ha
   go_enter Tryz.func136,Tryz.ntmps136
   go_wp2_with (go_at_call 174;refine H.out.mono ?_;rw [HA.out];rintro e w' ⟨rfl,rfl⟩)
   all_goals (go_ret;refine ⟨dw (Eq.trans ?_ HV.out.symm),rfl⟩;first | rfl | (simp [*];done) | (exfalso;omega))
 ·have HV:Hid (pz s.data.toList=false):=by
   unfold Hid
   rw [hD.out,decide_eq_false hl];rfl
  have hl':(63:Int)<s.size:=by omega
  go_enter Tryz.func136,Tryz.ntmps136
  go_wp2
  go_ret
  exact ⟨dw HV.out.symm,rfl⟩
theorem F9 (d:UInt8):∀ (s:Bs),∀ p∈mE d s,p.length≤s.length
 | []=>by simp [mE]
 | c::r=>by
  have ih:=F9 d r
  intro p hp
  unfold mE at hp
  split at hp
  ·rcases List.mem_cons.1 hp with rfl | hp
   ·simp
   ·have:=ih p hp;simp;omega
  ·rcases List.mem_cons.1 hp with rfl | hp
   ·have:=ih ((mE d r).headD []) (by rw [← EW d r] <;> simp)
    simp only [List.length_cons]
    omega
   ·have:=ih p (by rw [← EW d r];exact List.mem_cons_of_mem _ hp)
    simp;omega
theorem O5 (s:ByteArray) (c:UInt8) (w:World) (E:Env w) (hs:s.size≤1000000) :
  Calls Tryz.prog 173 #[.string s,.string ⟨#[c]⟩] w fun e w2=>∃ (b:Nat) (l:List ByteArray),l.map (·.data.toList)=mE c s.data.toList∧e=.returned (.slice (some ⟨b,0,none⟩) l.length l.length)∧Ext [] w w2∧w.heap.size≤b∧∀ (j:Nat) (h:j<l.length),w2.cell? ⟨b,j,none⟩=some (.string l[j]):=by
 obtain ⟨m,hm⟩:=E.max
 refine (Tryz.strings_Split s ⟨#[c]⟩ m w (by omega) hm (Nat.le_refl 1)).mono ?_
 rintro e w2 ⟨rfl,rfl⟩
 have h1:=Lib.splitB_data ⟨#[c]⟩ 0 (Lib.countB s ⟨#[c]⟩) s
 have h2:=Lib.splitB_all ⟨#[c]⟩ (Nat.le_refl 1) 0 _ s rfl
 refine ⟨w.heap.size,Lib.splitB ⟨#[c]⟩ 0 (Lib.countB s ⟨#[c]⟩) s,?_,by rw [h2] <;> rfl,(Ext.refl [] w).alloc _,Nat.le_refl _,fun j hj=>?_⟩
 ·rw [h1]
  exact Cg c _ s.data.toList (Nat.le_refl _)
 ·simp [go_sem,hj]
theorem MG (g:Nat) (p:Bs→Bool) (eg:∀ args w,(callFunc g args).run Tryz.prog w=.ok (.enter g args) w) (s:ByteArray) (w:World) (E:Env w) (hs:s.size≤1000000)
  (hg:∀ (x:ByteArray) (w:World),x.size≤1000000→Calls Tryz.prog g #[.string x] w fun e w2=>e=.returned (.bool (p x.data.toList))∧w=w2) :
  Calls Tryz.prog 135 #[.string s,.func (.func g) #[] #[]] w fun e w2=>e=.returned (.bool (xw p s.data.toList))∧Ext [] w w2:=by
 have HG:=Lib.hid hg
 have AA:=Lib.hid (O5 s 46 w E hs)
 have HS:=Lib.hid hs
 clear hg E hs
 go_enter Tryz.func135,Tryz.ntmps135
 go_wp2_with fail
 refine AA.out.mono ?_
 rintro e w1 ⟨b,l,hl,rfl,hx,hb,hc⟩
 have HL:=Lib.hid hl
 have HX:=Lib.hid hx
 have HC:=Lib.hid hc
 have HV:Hid (xw p s.data.toList=(l.map (·.data.toList)).all p):=by unfold Hid xw;rw [N9,hl]
 have HM:Hid (∀ x∈l,x.size≤1000000):=fun x hx=>by
  have:=F9 46 s.data.toList x.data.toList (by rw [← hl];exact List.mem_map_of_mem hx)
  have h2:x.data.toList.length=x.size:=by simp
  have h3:s.data.toList.length=s.size:=by simp
  have:=HS.out
  omega
 have hlen:(l.length:Int)≤9223372036854775807:=by
  have h1:=Lib.countB_le ⟨#[46]⟩ (by decide) s.size s (Nat.le_refl _)
  have:l.length=(mE 46 s.data.toList).length:=by rw [← hl];simp
  have h3:∀ t:Bs,(mE 46 t).length≤t.length+1:=fun t=>by
   induction t with
   | nil=>simp [mE]
   | cons c r ih =>
    unfold mE
    split
    ·simp;omega
    ·have h4:(mE 46 r).tail.length=(mE 46 r).length - 1:=by simp
     simp only [List.length_cons,h4]
     omega
  have h4:=h3 s.data.toList
  have h5:s.data.toList.length=s.size:=by simp
  have:=HS.out
  omega
 clear hl hx hc hb AA
 go_wp2_with fail
 go_loop [10] (fun i=>∃ k:Nat,i=.int .i64 k∧k≤l.length∧((l.take k).map (·.data.toList)).all p=true) (fun i=>l.length - (intOf i).toNat)
 case atStart=>exact ⟨0,rfl,Nat.zero_le _,rfl⟩
 case round =>
  obtain ⟨k,rfl,hk,hall⟩:=hrel
  have Fj:=Lib.hid hall
  clear hall
  by_cases hlt:k<l.length
  ·have hcell:=HC.out k hlt
   have HST:Hid (l.take (k+1)=l.take k++[l[k]]):=List.take_succ_eq_append_getElem hlt
   have HGK:=Lib.hid (HG.out l[k] w1 (HM.out _ (List.getElem_mem hlt)))
   have HNO:Hid (p l[k].data.toList=false→(l.map (·.data.toList)).all p=false):=fun h=>by
    rw [← Bool.not_eq_true,List.all_eq_true]
    intro h2
    have:=h2 l[k].data.toList (List.mem_map_of_mem (List.getElem_mem hlt))
    rw [h] at this
    cases this
   generalize l[k]=x at *
   cases hp:p x.data.toList with
   | true =>
    have HP:=Lib.hid hp
    clear hp
    go_wp2_with (go_at_fn g;refine HGK.out.mono ?_;rw [HP.out];rintro e w' ⟨rfl,rfl⟩)
    go_round
    case rel=>exact ⟨k+1,by go_num,by omega,by rw [HST.out,List.map_append,List.all_append,Fj.out];simp [HP.out]⟩
    case measure=>simp [intOf];omega
   | false =>
    have HP:=Lib.hid hp
    have gq:=Lib.hid (HNO.out hp)
    clear hp
    go_wp2_with (go_at_fn g;refine HGK.out.mono ?_;rw [HP.out];rintro e w' ⟨rfl,rfl⟩)
    go_ret
    exact ⟨dw (by rw [HV.out,gq.out]),HX.out⟩
  ·have gq:Hid ((l.map (·.data.toList)).all p=true):=by
    have:=Fj.out
    rw [List.take_of_length_le (by omega)] at this
    exact this
   go_wp2
   go_ret
   exact ⟨dw (by rw [HV.out,gq.out]),HX.out⟩
end
section
open Go.RowKit
section
variable {w0 w:World} {L:List aT}
theorem Ur (c:UInt8):bv c=.int .u8 (c.toNat:Int):=rfl
theorem R4 (c:UInt8) (h1:65≤c.toNat) (h2:c.toNat≤90):(.int .u8 ((c.toNat:Int) - 65+97):Value)=bv (BM c):=by
 have:(BM c).toNat=c.toNat+32:=by
  unfold BM
  rw [if_pos ⟨h1,h2⟩]
  rw [UInt8.toNat_add]
  show (c.toNat+32) % 256=_
  omega
 rw [Ur,this]
 congr 1
 omega
abbrev AR (b:Nat) (l:Bs):aT where
 holds:=fun F w=>F=[b]∧∃ C:Array Value,l.length≤C.size∧(∀ (j:Nat) (h:j<l.length),C[j]? = some (bv l[j]))∧w.heap[b]? = some (.cells C 5 (C.size,C.size+1))
 keeps:=fun ⟨h,C,h1,h2,h3⟩ hx hd=>⟨h,C,h1,h2,hx.heap h3 (hd b (by simp [h]))⟩
 inside:=fun ⟨h,C,h1,h2,h3⟩ x hx=>by rw [h] at hx;simp at hx;subst hx;exact jL h3
section
variable {w0 w:World} {F0:List Nat} {L:List aT} {b:Nat} {l:Bs}
theorem Sp.conv (S:Sp w0 F0 w L) (l:Bs):Sp w0 F0 (Lib.bytesWorld w 5 ⟨l.toArray⟩) (AR w.heap.size l::L):=by
 refine S.gain (G:=[w.heap.size]) (Grown.bytes w 5 ⟨l.toArray⟩).ext ⟨rfl,Lib.bytesCells w 5 ⟨l.toArray⟩,?_,fun j hj=>?_,Lib.bytesWorld_at_new w 5 ⟨l.toArray⟩⟩ (by simp)
 ·simp [Lib.bytesCells]
 ·simp [Lib.bytesCells,Array.getElem?_append,hj]
theorem Sp.Ga (S:Sp w0 F0 w (AR b l::L)) (j:Nat) (h:j<l.length):w.cell? ⟨b,j,none⟩=some (bv l[j]):=by
 obtain ⟨F,⟨_,C,h1,h2,h3⟩,_⟩:=S.take
 rw [bM h3]
 exact h2 j h
theorem Sp.O6 (S:Sp w0 F0 w (AR b l::L)) (j:Nat) (h:j<l.length):w.frozen? ⟨b,j,none⟩=false:=by
 obtain ⟨F,⟨_,C,h1,h2,h3⟩,_⟩:=S.take
 simp [World.frozen?,h3]
 omega
theorem Sp.R5 (S:Sp w0 F0 w (AR b l::L)) (j:Nat) (h:j<l.length) (c:UInt8):Sp w0 F0 (w.setCell ⟨b,j,none⟩ (bv c)) (AR b (l.set j c)::L):=by
 obtain ⟨F,⟨rfl,C,h1,h2,h3⟩,hk⟩:=S.take
 refine hk _ _ [b] ⟨rfl,C.setIfInBounds j (bv c),by simpa using h1,fun i hi=>?_,?_⟩ (cB.iV ((Ext.refl _ w).setCell (by simp) _))
 ·rw [Array.getElem?_setIfInBounds]
  rw [List.length_set] at hi
  by_cases e:j=i
  ·subst e
   rw [if_pos rfl,if_pos (by omega)]
   simp
  ·rw [if_neg e,h2 i hi,List.getElem_set_ne e]
 ·rw [heap_setCell_same h3]
  simp
theorem Sp.O7 (S:Sp w0 F0 w (AR b l::L)) (cap:Nat):(convert 79 9 (.slice (some ⟨b,0,none⟩) l.length cap)).run Tryz.prog w=.ok (.string ⟨l.toArray⟩) w :=
 run_convert_bytes_back w _ _ 5 ⟨b,0,none⟩ cap l Tryz.underlying79 Tryz.underlying5 Tryz.underlying9 (fun j hj=>by
  have hadd:(⟨b,0,none⟩:Addr).add j=⟨b,j,none⟩:=by unfold Addr.add;split <;> simp_all
  rw [hadd]
  exact S.Ga j hj)
end
def qX (s:Bs) (k:Nat):Bs:=iw (s.take k)++s.drop k
theorem oZ (s:Bs) (k:Nat):(qX s k).length=s.length:=by simp [qX,iw];omega
theorem Gb (s:Bs) (k:Nat) (h:k<s.length):(qX s k)[k]'(by rw [oZ];exact h)=s[k]:=by
 unfold qX
 rw [List.getElem_append_right (by simp [iw];omega)]
 simp [iw,Nat.min_eq_left (Nat.le_of_lt h)]
theorem AU (s:Bs) (k:Nat) (h:k<s.length):qX s (k+1)=(qX s k).set k (BM s[k]):=by
 unfold qX
 rw [List.take_succ_eq_append_getElem h]
 have e1:iw (s.take k++[s[k]])=iw (s.take k)++[BM s[k]]:=by unfold iw;rw [List.map_append];rfl
 have e2:(iw (s.take k)).length=k:=by simp [iw];omega
 rw [e1,List.set_append_right _ _ (by omega),e2,Nat.sub_self,List.append_assoc]
 congr 1
 rw [List.drop_eq_getElem_cons h]
 rfl
theorem Jg (s:Bs) (k:Nat) (h:k<s.length) (hc:BM s[k]=s[k]):qX s (k+1)=qX s k:=by
 rw [AU s k h,hc,← Gb s k h]
 simp
theorem MH (s:Bs):qX s s.length=iw s:=by simp [qX]
theorem MI (s:Bs) (w:World) (hs:s.length≤1000000):Calls Tryz.prog 137 #[.string ⟨s.toArray⟩] w fun e w2=>e=.returned (.string ⟨(iw s).toArray⟩)∧Ext [] w w2:=by
 have hcv:=Lib.run_convert_string_bytes (P:=Tryz.prog) w 9 79 5 ⟨s.toArray⟩ Tryz.underlying9 Tryz.underlying79 Tryz.underlying5
 have bV:=Lib.hid ((Sp.nil w []).conv s)
 rw [show (ByteArray.mk s.toArray).size=s.length from rfl] at hcv
 have hs':(s.length:Int)≤1000000:=by omega
 go_enter Tryz.func137,Tryz.ntmps137
 go_wp2_with fail
 generalize Lib.bytesWorld w 5 ⟨s.toArray⟩=w1 at *
 generalize w.heap.size=g at *
 generalize grownCap w s.length 0 5=cap at *
 clear hcv
 go_loopw [10] (fun i wr=>∃ k:Nat,i=.int .i64 k∧k≤s.length∧Sp w [] wr (AR g (qX s k)::[])) (fun i _=>s.length - (intOf i).toNat)
 case atStart=>exact ⟨0,rfl,Nat.zero_le _,bV.out⟩
 case round =>
  clear bV
  obtain ⟨k,rfl,hk,S⟩:=hrel
  have HS:=Lib.hid S
  clear S
  by_cases hlt:k<s.length
  ·have hlt':(k:Int)<s.length:=by omega
   have hcell:=HS.out.Ga k (by rw [oZ];exact hlt)
   have hfree:=HS.out.O6 k (by rw [oZ];exact hlt)
   rw [Gb s k hlt,Ur] at hcell
   have HN:=Lib.hid (AU s k hlt)
   have Vm:=Lib.hid (Jg s k hlt)
   have aar:=Lib.hid (R4 s[k])
   have R6:Hid (¬(65≤s[k].toNat∧s[k].toNat≤90)→BM s[k]=s[k]):=fun h=>by unfold BM;rw [if_neg h]
   have U2:=Lib.hid (HS.out.R5 k (by rw [oZ];exact hlt) (BM s[k]))
   generalize s[k]=c at *
   have hc9:=c.toNat_lt
   by_cases hup:65≤c.toNat∧c.toNat≤90
   ·have h1:(65:Int)≤c.toNat:=by omega
    have h2:(c.toNat:Int)≤90:=by omega
    have HL:=Lib.hid (aar.out hup.1 hup.2)
    clear hup hc9
    go_wp2
    rw [HL.out]
    go_roundw
    case rel=>exact ⟨k+1,by go_num,by omega,by rw [HN.out];exact U2.out⟩
    case measure=>simp [intOf];omega
   ·have Vn:=Lib.hid (Vm.out (R6.out hup))
    have hor:(c.toNat:Int)<65∨(90:Int)<c.toNat:=by omega
    clear hup
    rcases hor with h1 | h1
    ·go_wp2
     go_roundw
     case rel=>exact ⟨k+1,by go_num,by omega,by rw [Vn.out];exact HS.out⟩
     case measure=>simp [intOf];omega
    ·have h2:(65:Int)≤c.toNat:=by omega
     go_wp2
     go_roundw
     case rel=>exact ⟨k+1,by go_num,by omega,by rw [Vn.out];exact HS.out⟩
     case measure=>simp [intOf];omega
  ·obtain rfl:k=s.length:=by omega
   have hb:=HS.out.O7 cap
   rw [oZ,MH] at hb
   go_wp2
   go_ret
   exact ⟨rfl,HS.out.ext⟩
end
end
section
open Go.RowKit
section
variable {w0 w:World} {L:List aT}
theorem Jh (s:Bs) (w:World) (E:Env w) (hs:s.length≤1000000):Calls Tryz.prog 100 #[.string ⟨s.toArray⟩] w fun e w2=>e=.returned (.tuple #[.string ⟨(oz s).1.toArray⟩,.int .i64 (oz s).2])∧Ext [] w w2:=by
 have eg:=enters_of Tryz.func136 (by kernel_rfl) rfl
 have H:=Lib.hid (MG 136 pz eg ⟨s.toArray⟩ w E hs (fun x w hx=>MF x w (by unfold maxLen;omega)))
 have Vm:=Lib.hid (fun w=>MI s w hs)
 have hD:Hid (vB s=(decide (s.length≤255) && xw pz s)):=rfl
 clear eg E hs
 by_cases hl:s.length≤255
 ·have hl':(s.length:Int)≤255:=by omega
  cases hp:xw pz s with
  | true =>
   have HP:=Lib.hid hp
   have HV:Hid (oz s=(iw s,0)):=by unfold Hid oz;rw [hD.out,hp,if_pos (by simp [hl])]
   clear hp
   go_enter Tryz.func100,Tryz.ntmps100
   go_wp2_with fail
   refine H.out.mono ?_
   rw [HP.out]
   rintro e w2 ⟨rfl,hx⟩
   have HX:=Lib.hid hx
   clear hx
   go_wp2_with fail
   refine (Vm.out _).mono ?_
   rintro e w3 ⟨rfl,hx⟩
   have yu:=Lib.hid (HX.out.trans hx (by simp))
   clear hx
   go_wp2
   go_ret2
   rw [HV.out]
   exact ⟨rfl,yu.out⟩
  | false =>
   have HP:=Lib.hid hp
   have HV:Hid (oz s=([],2)):=by unfold Hid oz;rw [hD.out,hp,if_neg (by simp)]
   clear hp
   go_enter Tryz.func100,Tryz.ntmps100
   go_wp2_with fail
   refine H.out.mono ?_
   rw [HP.out]
   rintro e w2 ⟨rfl,hx⟩
   have HX:=Lib.hid hx
   clear hx
   go_wp2
   go_ret2
   rw [HV.out]
   exact ⟨rfl,HX.out⟩
 ·have hl':(255:Int)<s.length:=by omega
  have HV:Hid (oz s=([],2)):=by unfold Hid oz;rw [hD.out,if_neg (by simp [hl])]
  go_enter Tryz.func100,Tryz.ntmps100
  go_wp2
  go_ret2
  rw [HV.out]
  exact ⟨rfl,Ext.refl _ _⟩
theorem KN (s:Bs) (S:Sp w0 [] w L) (E:Env w0) (hs:s.length≤1000000):Calls Tryz.prog 100 #[.string ⟨s.toArray⟩] w fun e w2=>e=.returned (.tuple #[.string ⟨(oz s).1.toArray⟩,.int .i64 (oz s).2])∧Sp w0 [] w2 L :=
 (Jh s w (E.sp S) hs).mono fun _ _ ⟨he,hx⟩=>⟨he,S.iq hx⟩
theorem MK (s:Bs) (w:World) (hs:s.length≤1000000):Calls Tryz.prog 176 #[.string ⟨s.toArray⟩] w fun e w2=>e=.returned (.bool (pE s))∧w=w2:=by
 have eg:=enters_of Tryz.func209 (by kernel_rfl) rfl
 have H:=Lib.hid (KL 209 zS eg (fun c w=>ME c w) ⟨s.toArray⟩ w (by show s.length≤_;unfold maxLen;omega))
 clear eg hs
 by_cases hl:s.length≤64
 ·have hl':(s.length:Int)≤64:=by omega
  have HV:Hid (pE s=zT zS s):=by unfold Hid pE;rw [decide_eq_true hl];rfl
  go_enter Tryz.func176,Tryz.ntmps176
  go_wp2_with fail
  refine H.out.mono ?_
  rintro e w2 ⟨rfl,rfl⟩
  go_wp2
  go_ret
  exact ⟨dw HV.out.symm,rfl⟩
 ·have hl':(64:Int)<s.length:=by omega
  have HV:Hid (pE s=false):=by unfold Hid pE;rw [decide_eq_false hl];rfl
  go_enter Tryz.func176,Tryz.ntmps176
  go_wp2
  go_ret
  exact ⟨dw HV.out.symm,rfl⟩
def wu (b:Mb):Value:=.agg #[.string ⟨b.1.toArray⟩,.string ⟨b.2.toArray⟩]
def wC (b:Mb):Array Value:=#[.string ⟨b.1.toArray⟩,.string ⟨b.2.toArray⟩]
theorem aas (b:Mb) (S:Sp w0 [] w L) (E:Env w0) (h1:b.1.length≤1000000) (h2:b.2.length≤1000000):Calls Tryz.prog 138 #[wu b] w fun e w2=>e=.returned (.bool (ko b))∧Sp w0 [] w2 L:=by
 obtain ⟨l,d⟩:=b
 have bV:=Lib.hid (S.box (wC (l,d)) 219)
 have RU:=Lib.hid (fun w=>MK l w h1)
 have HE:=Lib.hid E
 have H2:=Lib.hid h2
 have HM:Hid (ko (l,d)=(vB d && iw d == d && pE l)):=rfl
 unfold wu
 unfold wC at bV
 dsimp only at *
 clear S E h1 h2
 go_enter Tryz.func138,Tryz.ntmps138
 go_wp2_with fail
 refine (KN d bV.out HE.out H2.out).mono ?_
 generalize w.alloc (.cells #[.string ⟨l.toArray⟩,.string ⟨d.toArray⟩] 219)=w1 at *
 generalize w.heap.size=q at *
 cases hd:vB d with
 | false =>
  have HV:Hid (ko (l,d)=false):=by unfold Hid;rw [HM.out,hd];rfl
  have HDV:Hid (oz d=([],2)):=by unfold Hid oz;rw [hd];rfl
  rw [HDV.out]
  clear hd
  rintro e w2 ⟨rfl,S2⟩
  have HS2:=Lib.hid S2
  clear S2
  go_wp2
  go_ret
  exact ⟨dw HV.out.symm,HS2.out.drop⟩
 | true =>
  have HDV:Hid (oz d=(iw d,0)):=by unfold Hid oz;rw [hd];rfl
  rw [HDV.out]
  rintro e w2 ⟨rfl,S2⟩
  have HS2:=Lib.hid S2
  have c2:=S2.cell
  clear S2
  by_cases hs:iw d=d
  ·have HV:Hid (ko (l,d)=pE l):=by unfold Hid;rw [HM.out,hd,hs];simp
   have t1:(iw d == d)=true:=by simpa using hs
   clear hd hs
   go_wp2_with fail
   refine (RU.out _).mono ?_
   rintro e w3 ⟨rfl,rfl⟩
   clear c2
   go_wp2
   go_ret
   exact ⟨dw HV.out.symm,HS2.out.drop⟩
  ·have HV:Hid (ko (l,d)=false):=by unfold Hid;rw [HM.out,hd];simp [hs]
   have t1:(iw d == d)=false:=by simpa using hs
   clear hd hs
   go_wp2
   go_ret
   exact ⟨dw HV.out.symm,HS2.out.drop⟩
end
end
section
open Go.RowKit
end
section
open Go.RowKit
end
end Go.Proofs.YtangbdahnmomlaaGreatDoor
