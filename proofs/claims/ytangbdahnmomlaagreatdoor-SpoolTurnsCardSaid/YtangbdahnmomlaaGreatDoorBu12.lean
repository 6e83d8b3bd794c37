/- The contracts of disk, pack and strings.Builder, in the words of parts. Conditions: the lengths fit. Slices of bytes that the program itself lays, -/
import Derived.Laws.IdiomStrings
import Derived.Lib.SlBytesRow
import Derived.Test.YtangbdahnmomlaaGreatDoorBu00
import Derived.Test.YtangbdahnmomlaaGreatDoorBu01
import Derived.Test.YtangbdahnmomlaaGreatDoorBu04
import Derived.Test.YtangbdahnmomlaaGreatDoorBu06
import Derived.Test.YtangbdahnmomlaaGreatDoorBu07
import Derived.Test.YtangbdahnmomlaaGreatDoorBu08
import Derived.Test.YtangbdahnmomlaaGreatDoorBu11
set_option linter.unnecessarySimpa false
set_option linter.unusedSimpArgs false
set_option linter.unusedVariables false
set_option maxHeartbeats 2000000
set_option maxRecDepth 100000
namespace Go.Proofs.YtangbdahnmomlaaGreatDoor
section
open Go.RowKit Go.Maps
abbrev xC (T b:Nat) (r:Rd):aT:=ae b #[.string ⟨r.s.toArray⟩,.bool r.bad] T
abbrev DN (T b:Nat) (l:Bs):aT where
 holds:=fun F w=>Aj T w b F l
 keeps:=fun h hx hd=>h.ext hx hd
 inside:=fun h=>h.lt
abbrev aF (p:Nat) (D:Dk):aT where
 holds:=fun F w=>mO w p F D
 keeps:=fun h hx hd=>h.ext hx hd
 inside:=fun h=>h.lt
abbrev mG {V:Type} (k:TypeId) (enc:V→Value) (b:Nat) (M:Mp V):aT where
 holds:=fun F w=>F=[b]∧MapOf Tryz.prog k enc w b M
 keeps:=fun h hx hd=>⟨h.1,h.2.ext hx (hd b (by simp [h.1]))⟩
 inside:=fun h x hx=>by rw [h.1] at hx;simp at hx;subst hx;exact h.2.lt
section
variable {V:Type} {enc:V→Value} {t k e b:Nat} {w0 w:World} {F0:List Nat} {L:List aT} {M:Mp V}
theorem Sp.map (S:Sp w0 F0 w (mG k enc b M::L)):MapOf Tryz.prog k enc w b M:=by
 obtain ⟨F,⟨rfl,h⟩,_⟩:=S.take
 exact h
theorem Sp.zu (S:Sp w0 F0 w L) (k:TypeId) (enc:V→Value):Sp w0 F0 (w.alloc (.map #[] 0)) (mG k enc w.heap.size []::L) :=
 S.gain (G:=[w.heap.size]) ((Ext.refl [] w).alloc _) ⟨rfl,MapOf.made w⟩ (by simp)
theorem Sp.XE {M2:Mp V} {w2:World} (S:Sp w0 F0 w (mG k enc b M::L)) (h:MapOf Tryz.prog k enc w2 b M2) (hx:Ext [b] w w2):Sp w0 F0 w2 (mG k enc b M2::L):=by
 obtain ⟨F,⟨rfl,_⟩,h2⟩:=S.take
 exact h2 _ _ [b] ⟨rfl,h⟩ (cB.iV hx)
theorem Sp.xD (S:Sp w0 F0 w (mG k enc b M::L)) (hk:Keyed Tryz.prog k) (ht:Tryz.prog.underlying t=some (.map k e)) (hn:M.length<maxLen) {key:Value} {x:Bs} (hx:keyOf Tryz.prog k key=some (.string x)) (v:V) :
  ∃ w2,(Instr.mapUpdate t (.map (some b)) key (enc v)).run Tryz.prog w=.ok () w2∧Sp w0 F0 w2 (mG k enc b (M.put x v)::L)∧w2.heap.size=w.heap.size:=by
 obtain ⟨w2,h1,h2,h3,h4⟩:=S.map.update hk ht hn hx v
 exact ⟨w2,h1,S.XE h2 h3,h4⟩
end
section
variable {w0 w w2:World} {F0:List Nat} {L:List aT} {T b p:Nat} {l s:Bs}
variable {D D2:Dk}
variable {r:Rd}
theorem Sp.rd (S:Sp w0 F0 w (xC T b r::L)):iy T w b r:=S.boxed
theorem Sp.XF {r2:Rd} (S:Sp w0 F0 w (xC T b r::L)) (h:iy T w2 b r2) (hx:Ext [b] w w2):Sp w0 F0 w2 (xC T b r2::L):=by
 obtain ⟨F,⟨rfl,h1⟩,h2⟩:=S.take
 exact h2 _ _ [b] ⟨rfl,h⟩ (cB.iV hx)
theorem lF (most:Nat) (mi:Int) (U4:mi=most) (S:Sp w0 F0 w (xC T b r::L)) (hs:r.s.length≤1000000000000) (hm:most≤1000000000000) :
  Calls Tryz.prog 92 #[.pointer (some ⟨b,0,none⟩),.int .i64 mi] w fun e w2=>e=.returned (.string ⟨(r.text most).1.toArray⟩)∧Sp w0 F0 w2 (xC T b (r.text most).2::L) :=
 (Kn T b r most mi w U4 S.rd hs hm).mono fun _ _ ⟨he,h,hx⟩=>⟨he,S.XF h hx⟩
theorem kT (most:Nat) (mi:Int) (U4:mi=most) (S:Sp w0 F0 w (xC T b r::L)) (hs:r.s.length≤1000000000000) :
  Calls Tryz.prog 96 #[.pointer (some ⟨b,0,none⟩),.int .u64 mi] w fun e w2=>e=.returned (.int .u64 (r.num most).1)∧Sp w0 F0 w2 (xC T b (r.num most).2::L) :=
 (Om T b r most mi w U4 S.rd hs).mono fun _ _ ⟨he,h,hx⟩=>⟨he,S.XF h hx⟩
theorem DR (S:Sp w0 F0 w (xC T b r::L)):Calls Tryz.prog 97 #[.pointer (some ⟨b,0,none⟩)] w fun e w2=>e=.returned (.int .i64 r.done)∧w=w2:=Af T b r w S.rd
theorem zw (S:Sp w0 F0 w (xC T b r::L)):Calls Tryz.prog 64 #[.pointer (some ⟨b,0,none⟩)] w fun e w2=>e=.returned (.int .i64 r.s.length)∧w=w2:=IK T b r w S.rd
theorem yx (S:Sp w0 F0 w L) (s:Bs):Calls Tryz.prog 62 #[.string ⟨s.toArray⟩] w fun e w2=>∃ b,e=.returned (.pointer (some ⟨b,0,none⟩))∧Sp w0 F0 w2 (xC 151 b ⟨s,false⟩::L) :=
 (Fy s w).mono fun _ _ ⟨he,h,hx,_⟩=>⟨_,he,S.gain (G:=[w.heap.size]) hx ⟨rfl,h⟩ (by simp)⟩
theorem Aj.fresh (w:World) (T:TypeId):Aj T (w.alloc (.cells #[.pointer none,.slice none 0 0] T)) w.heap.size [w.heap.size] [] :=
 ⟨_,_,.inl rfl,heap_alloc_new _ _,World.ownsRowF_nil _ _ _ _,by simp [Value.ownBlock],by simp [Value.ownBlock]⟩
theorem Sp.Z8 (S:Sp w0 F0 w L) (T:TypeId):Sp w0 F0 (w.alloc (.cells #[.pointer none,.slice none 0 0] T)) (DN T w.heap.size []::L) :=
 S.gain ((Ext.refl [] w).alloc _) (Aj.fresh w T) (by simp)
theorem nD (S:Sp w0 F0 w (DN 203 b l::L)) (hl:l.length≤1000000000000) (hs:s.length≤1000000000000) :
  Calls Tryz.prog 118 #[.pointer (some ⟨b,0,none⟩),.string ⟨s.toArray⟩] w fun e w2=>e=.returned (.tuple #[])∧Sp w0 F0 w2 (DN 203 b (l++aN s)::L):=by
 obtain ⟨F,h,hk⟩:=S.take
 exact (yw b F l s w h hl hs).mono fun _ _ ⟨he,F2,h2,m⟩=>⟨he,hk _ _ F2 h2 m⟩
theorem jv (n:Nat) (S:Sp w0 F0 w (DN 203 b l::L)) (hl:l.length≤1000000000000) (hn:n<18446744073709551616) :
  Calls Tryz.prog 117 #[.pointer (some ⟨b,0,none⟩),.int .u64 n] w fun e w2=>e=.returned (.tuple #[])∧Sp w0 F0 w2 (DN 203 b (l++bJ n)::L):=by
 obtain ⟨F,h,hk⟩:=S.take
 exact (Al b F l n w h hl hn).mono fun _ _ ⟨he,F2,h2,m⟩=>⟨he,hk _ _ F2 h2 m⟩
theorem uN (S:Sp w0 F0 w (DN T b l::L)) (h0:l≠[]) :
  Calls Tryz.prog 90 #[.pointer (some ⟨b,0,none⟩)] w fun e w2=>e=.returned (.string ⟨l.toArray⟩)∧Sp w0 F0 w2 L:=by
 obtain ⟨F,h,hk⟩:=S.take
 refine (oD T b F l w h h0).mono fun _ w2 ⟨he,hx⟩=>⟨he,?_⟩
 exact (hk w2 ⟨fun F _=>F=[],fun h _ _=>h,fun h x hx=>by rw [h] at hx;cases hx⟩ [] rfl ⟨hx,by simp⟩).drop
theorem oU (S:Sp w0 F0 w L) (s:Bs) (hs:s.length≤1000000000000):Calls Tryz.prog 119 #[.string ⟨s.toArray⟩] w fun e w2=>e=.returned (.string ⟨(aN s).toArray⟩)∧Sp w0 F0 w2 L :=
 (pR s w hs).mono fun _ _ ⟨he,hx⟩=>⟨he,S.iq hx⟩
theorem OC (S:Sp w0 F0 w L) (n:Nat) (hn:n<18446744073709551616):Calls Tryz.prog 141 #[.int .u64 n] w fun e w2=>e=.returned (.string ⟨(bJ n).toArray⟩)∧Sp w0 F0 w2 L :=
 (rD n w hn).mono fun _ _ ⟨he,hx⟩=>⟨he,S.iq hx⟩
theorem Sp.disk (S:Sp w0 F0 w (aF p D::L)):∃ F,mO w p F D∧∀ w2 D2,rG F w p w2 D2→Sp w0 F0 w2 (aF p D2::L):=by
 obtain ⟨F,h,hk⟩:=S.take
 exact ⟨F,h,fun w2 D2 ⟨F2,h2,m⟩=>hk _ _ F2 h2 m⟩
theorem XG (S:Sp w0 F0 w L):Calls Tryz.prog 8 #[] w fun r w2=>∃ p,r=.returned (.pointer (some ⟨p,0,none⟩))∧Sp w0 F0 w2 (aF p Dk.new::L) :=
 (RB w).mono fun _ _ ⟨p,_,he,h,hx,hn⟩=>⟨p,he,S.gain hx h hn⟩
theorem yz (S:Sp w0 F0 w (aF p D::L)) (hs:D.Small):Calls Tryz.prog 46 #[.pointer (some ⟨p,0,none⟩)] w fun r w2=>r=.returned (.int .i64 D.sync.2)∧Sp w0 F0 w2 (aF p D.sync.1::L):=by
 obtain ⟨F,h,hk⟩:=S.disk
 exact (Oy p F D w h hs).mono fun _ _ ⟨he,h2⟩=>⟨he,hk _ _ h2⟩
theorem zx (n d:Bs) (S:Sp w0 F0 w (aF p D::L)) (hs:D.Small) (hn:n.length<1000000000000000000) (hd:d.length<1000000000000000000) :
  Calls Tryz.prog 78 #[.pointer (some ⟨p,0,none⟩),.string ⟨n.toArray⟩,.string ⟨d.toArray⟩] w fun r w2=>r=.returned (.int .i64 (D.append n d).2)∧Sp w0 F0 w2 (aF p (D.append n d).1::L):=by
 obtain ⟨F,h,hk⟩:=S.disk
 exact (I4 p F D n d w h hs hn hd).mono fun _ _ ⟨he,h2⟩=>⟨he,hk _ _ h2⟩
theorem DT (n d:Bs) (S:Sp w0 F0 w (aF p D::L)) (hs:D.Small) (hn:n.length<1000000000000000000) (hd:d.length<1000000000000000000) :
  Calls Tryz.prog 61 #[.pointer (some ⟨p,0,none⟩),.string ⟨n.toArray⟩,.string ⟨d.toArray⟩] w fun r w2=>r=.returned (.int .i64 (D.write n d).2)∧Sp w0 F0 w2 (aF p (D.write n d).1::L):=by
 obtain ⟨F,h,hk⟩:=S.disk
 exact (Mc p F D n d w h hs hn hd).mono fun _ _ ⟨he,h2⟩=>⟨he,hk _ _ h2⟩
theorem Ku (n:Bs) (S:Sp w0 F0 w (aF p D::L)) (hn:n.length≤maxLen) :
  Calls Tryz.prog 59 #[.pointer (some ⟨p,0,none⟩),.string ⟨n.toArray⟩] w fun r w2=>r=.returned (.tuple #[.string ⟨((D.now.get n).getD []).toArray⟩,.int .i64 (if D.now.has n then 0 else 10)])∧w=w2:=by
 obtain ⟨F,h,hk⟩:=S.disk
 exact Oz p F D n w h hn
theorem Kv (n:Bs) (S:Sp w0 F0 w (aF p D::L)) (hs:D.Small) (hn:n.length<1000000000000000000) :
  Calls Tryz.prog 50 #[.pointer (some ⟨p,0,none⟩),.string ⟨n.toArray⟩] w fun r w2=>r=.returned (.int .i64 (D.remove n).2)∧Sp w0 F0 w2 (aF p (D.remove n).1::L):=by
 obtain ⟨F,h,hk⟩:=S.disk
 exact (IZ p F D n w h hs hn).mono fun _ _ ⟨he,h2⟩=>⟨he,hk _ _ h2⟩
theorem RG (n t:Bs) (S:Sp w0 F0 w (aF p D::L)) (hs:D.Small) (hn:n.length<1000000000000000000) (ht:t.length<1000000000000000000) :
  Calls Tryz.prog 98 #[.pointer (some ⟨p,0,none⟩),.string ⟨n.toArray⟩,.string ⟨t.toArray⟩] w fun r w2=>r=.returned (.int .i64 (D.rename n t).2)∧Sp w0 F0 w2 (aF p (D.rename n t).1::L):=by
 obtain ⟨F,h,hk⟩:=S.disk
 exact (I1 p F D n t w h hs hn ht).mono fun _ _ ⟨he,h2⟩=>⟨he,hk _ _ h2⟩
end
end
section
open Go.RowKit Go.Maps Go.Sort
theorem tF (s:Bs) (i:Nat) (h:i<s.length) (z:Int) (hz:z=i) (w:World):(Instr.index 9 (.string ⟨s.toArray⟩) (.int .i64 z)).run Tryz.prog w=.ok (.int .u8 (s[i].toNat:Int)) w:=by
 subst hz
 simp [go_sem]
 rw [dif_pos h]
 rfl
end
section
def jU (a b:Bs):Bs:=List.zipWith (fun x y=>x ^^^ y) a b
theorem lU (a b:Bs) (h:a.length≤b.length):(jU a b).length=a.length:=by simp [jU];omega
theorem Ar:∀ (a b:Bs),a.length≤b.length→jU (jU a b) b=a
 | [],_,_=>by simp [jU]
 | x::a,[],h=>by simp at h
 | x::a,y::b,h=>by
  have ih:=Ar a b (by simpa using h)
  unfold jU at *
  rw [List.zipWith_cons_cons,List.zipWith_cons_cons,ih,UInt8.xor_assoc,UInt8.xor_self,UInt8.xor_zero]
structure dD where
 blk:Bs→Nat→Bs→Bs
 tag:Bs→Bs→Bs
 RH:∀ k n z,(blk k n z).length=64
 Vb:∀ k t,(tag k t).length=16
def dD.blocks (c:dD) (key aB:Bs):Nat→Nat→Bs
 | 0,_=>[]
 | m+1,n=>c.blk key (n % 4294967296) aB++c.blocks key aB m (n+1)
theorem dD.lG (c:dD) (key aB:Bs):∀ (m n:Nat),(c.blocks key aB m n).length=64*m
 | 0,_=>rfl
 | m+1,n=>by
  rw [blocks,List.length_append,c.RH,c.lG key aB m]
  omega
def dD.stream (c:dD) (key aB:Bs) (n:Nat):Bs:=(c.blocks key aB ((n+63) / 64) 1).take n
theorem dD.lH (c:dD) (key aB:Bs) (n:Nat):(c.stream key aB n).length=n:=by
 unfold dD.stream
 rw [List.length_take,c.lG]
 omega
def iF (s:Bs):Bs:=if s.length % 16=0 then s else s++List.replicate (16 - s.length % 16) 0
def OD:Nat→Nat→Bs
 | 0,_=>[]
 | k+1,n=>UInt8.ofNat (n % 256)::OD k (n / 256)
def covered (data zy:Bs):Bs:=iF data++iF zy++OD 8 data.length++OD 8 zy.length
def dD.oV (c:dD) (key aB data zy:Bs):Bs:=c.tag ((c.blk key 0 aB).take 32) (covered data zy)
def dD.shut (c:dD) (key aB data text:Bs):Bs:=jU text (c.stream key aB text.length)++c.oV key aB data (jU text (c.stream key aB text.length))
def dD.open (c:dD) (key aB data s:Bs):Option Bs :=
 if c.oV key aB data (s.take (s.length - 16))=s.drop (s.length - 16) then some (jU (s.take (s.length - 16)) (c.stream key aB (s.length - 16))) else none
theorem dD.lV (c:dD) (key aB data text:Bs):(c.shut key aB data text).length=text.length+16:=by
 unfold dD.shut dD.oV
 rw [List.length_append,c.Vb,lU _ _ (by rw [c.lH];exact Nat.le_refl _)]
theorem dD.Md (c:dD) (key aB data text:Bs):c.open key aB data (c.shut key aB data text)=some text:=by
 have hx:(jU text (c.stream key aB text.length)).length=text.length:=lU _ _ (by rw [c.lH];exact Nat.le_refl _)
 unfold dD.open
 rw [c.lV,Nat.add_sub_cancel]
 have h1:(c.shut key aB data text).take text.length=jU text (c.stream key aB text.length):=by
  unfold dD.shut
  rw [List.take_append_of_le_length (by omega),List.take_of_length_le (by omega)]
 have h2:(c.shut key aB data text).drop text.length=c.oV key aB data (jU text (c.stream key aB text.length)):=by
  unfold dD.shut
  rw [List.drop_append_of_le_length (by omega),List.drop_of_length_le (by omega),List.nil_append]
 rw [h1,h2,if_pos rfl,Ar _ _ (by rw [c.lH];exact Nat.le_refl _)]
theorem dD.yA (c:dD) (key aB:Bs):∀ (m n:Nat),c.blocks key aB (m+1) n=c.blocks key aB m n++c.blk key ((n+m) % 4294967296) aB
 | 0,n=>by
  unfold dD.blocks
  simp [dD.blocks]
 | m+1,n=>by
  rw [dD.blocks,c.yA key aB m (n+1)]
  conv=>rhs;rw [dD.blocks]
  rw [List.append_assoc,show n+1+m=n+(m+1) by omega]
def dD.gJ (c:dD) (key aB:Bs) (k n:Nat):Bs:=(c.blocks key aB ((n+63) / 64) k).take n
theorem dD.qV (c:dD) (key aB:Bs) (k n:Nat):(c.gJ key aB k n).length=n:=by
 unfold dD.gJ
 rw [List.length_take,c.lG]
 omega
end
section
open Go.RowKit
section
variable {w0 w:World} {F0:List Nat} {L:List aT} {v:Value}
theorem Me (c:UInt8):bits .xor .u8 (c.toNat:Int) (c.toNat:Int)=0:=by
 unfold bits
 simp [IntKind.wrap,IntKind.signed]
theorem OE:bits .or .u8 0 0=0:=by decide
theorem Vd (s:Bs) (w:World) (hs:s.length≤1000000000):Calls Tryz.prog 196 #[.string ⟨s.toArray⟩,.string ⟨s.toArray⟩] w fun e w2=>e=.returned (.bool true)∧∃ q,w2=w.drewN q:=by
 have hs':(s.length:Int)≤1000000000:=by omega
 go_enter Tryz.func196,Tryz.ntmps196
 go_wp2_with fail
 go_loopw [5,14] (fun u i wr=>∃ k q:Nat,u=.int .u8 0∧i=.int .i64 k∧k≤s.length∧wr=w.drewN q) (fun _ i _=>s.length - (intOf i).toNat)
 case atStart=>exact ⟨0,0,rfl,rfl,Nat.zero_le _,rfl⟩
 case round =>
  obtain ⟨k,q,rfl,rfl,hk,rfl⟩:=hrel
  by_cases hlt:k<s.length
  ·have hlt':(k:Int)<s.length:=by omega
   have hix:=fun w'=>tF s k hlt (k:Int) rfl w'
   have hx:=Me s[k]
   have ho:=OE
   generalize s[k]=c at *
   go_wp2_with fail
   go_region
   all_goals
    go_wp2_with fail
    go_roundw
    case rel=>exact ⟨k+1,q+1,by simp [hx,ho],by go_num,by omega,rfl⟩
    case measure=>simp [intOf];omega
  ·go_wp2
   go_ret
   exact ⟨rfl,q,rfl⟩
abbrev ui (b:Nat) (l:Bs):aT where
 holds:=fun F w=>F=[b]∧∃ (C:Array Value) (m:Nat),w.heap[b]? = some (.cells C 5 (C.size,m))∧l.length≤C.size∧∀ i,(h:i<l.length)→C[i]? = some (bv l[i])
 keeps:=fun ⟨h1,C,m,h2,h3⟩ hx hd=>⟨h1,C,m,hx.heap h2 (hd b (by simp [h1])),h3⟩
 inside:=fun h x hx=>by
  obtain ⟨h1,C,m,h2,_⟩:=h
  rw [h1] at hx
  simp at hx
  subst hx
  exact jL h2
theorem Sp.FH (S:Sp w0 F0 w L) (l:Bs) (c:Nat):Sp w0 F0 (w.drew.alloc (.cells (bytesRow ⟨l.toArray⟩ c) 5 ((bytesRow ⟨l.toArray⟩ c).size,(bytesRow ⟨l.toArray⟩ c).size+1))) (ui w.heap.size l::L):=by
 refine S.gain (G:=[w.heap.size]) (((Ext.refl [] w).drew).alloc _) ⟨rfl,bytesRow ⟨l.toArray⟩ c,_,(MapKept.heap_alloc w.drew _).1,?_,fun i h=>?_⟩ (by simp)
 ·unfold bytesRow
  simp
 ·unfold bytesRow
  rw [Array.getElem?_append_left (by simpa using h)]
  simp [h]
theorem Sp.tH {b:Nat} {l:Bs} (S:Sp w0 F0 w (ui b l::L)) {i:Nat} (h:i<l.length):w.cell? ⟨b,i,none⟩=some (bv l[i]):=by
 obtain ⟨F,⟨rfl,C,m,h2,h3,h4⟩,_⟩:=S.take
 have:=h4 i h
 simp [World.cell?,h2,this]
theorem Sp.Ct {b:Nat} {l:Bs} (S:Sp w0 F0 w (ui b l::L)) {i:Nat} (h:i<l.length):w.frozen? ⟨b,i,none⟩=false:=by
 obtain ⟨F,⟨rfl,C,m,h2,h3,h4⟩,_⟩:=S.take
 simp [World.frozen?,h2]
 omega
theorem Sp.FI {b:Nat} {l:Bs} (S:Sp w0 F0 w (ui b l::L)) {i:Nat} (h:i<l.length) (c:UInt8):Sp w0 F0 (w.setCell ⟨b,i,none⟩ (bv c)) (ui b (l.set i c)::L):=by
 obtain ⟨F,⟨rfl,C,m,h2,h3,h4⟩,h5⟩:=S.take
 refine h5 _ _ [b] ⟨rfl,C.setIfInBounds i (bv c),m,?_,by simpa using h3,fun j hj=>?_⟩ (cB.iV ((Ext.refl _ w).setCell (by simp) _))
 ·have:=vw (o:=i) h2 (bv c)
  simpa using this
 ·have hj':j<l.length:=by simpa using hj
  rw [List.getElem_set,Array.getElem?_setIfInBounds]
  by_cases e:i=j
  ·subst e
   rw [if_pos rfl,if_pos rfl,if_pos (by omega)]
  ·rw [if_neg e,if_neg e]
   exact h4 j hj'
def kL (a b:Bs) (k:Nat):Bs:=(List.range a.length).map fun i=>if i<k then a.getD i 0 ^^^ b.getD i 0 else a.getD i 0
theorem vN (a b:Bs) (k:Nat):(kL a b k).length=a.length:=by simp [kL]
theorem I6 (a b:Bs):kL a b 0=a:=by
 apply List.ext_getElem (by simp [kL])
 intro i h1 h2
 simp [kL,List.getD_eq_getElem?_getD,List.getElem?_eq_getElem h2]
theorem I7 (a b:Bs) (k:Nat) (h:k<a.length) (h2:k<b.length):(kL a b k).set k (a[k] ^^^ b[k])=kL a b (k+1):=by
 apply List.ext_getElem (by simp [kL])
 intro i h3 h4
 rw [List.getElem_set]
 by_cases e:k=i
 ·subst e
  rw [if_pos rfl]
  simp [kL,List.getD_eq_getElem?_getD,List.getElem?_eq_getElem h,List.getElem?_eq_getElem h2]
 ·rw [if_neg e]
  simp only [kL,List.getElem_map,List.getElem_range]
  by_cases e2:i<k
  ·rw [if_pos e2,if_pos (by omega)]
  ·rw [if_neg e2,if_neg (by omega)]
theorem Mf (a b:Bs) (k:Nat) (h:k<a.length):(kL a b k)[k]'(by rw [vN];exact h)=a[k]:=by
 simp [kL,List.getD_eq_getElem?_getD,List.getElem?_eq_getElem h]
theorem Mg (a b:Bs) (h:a.length=b.length):kL a b a.length=jU a b:=by
 apply List.ext_getElem (by simp [kL,jU,h])
 intro i h1 h2
 have ha:i<a.length:=by simpa [kL] using h1
 have hb:i<b.length:=by omega
 simp [kL,jU,List.getD_eq_getElem?_getD,List.getElem?_eq_getElem ha,List.getElem?_eq_getElem hb,ha]
theorem Uk (c d:UInt8):bits .xor .u8 (c.toNat:Int) (d.toNat:Int)=((c ^^^ d).toNat:Int):=by
 have hc:=c.toNat_lt
 have hd:=d.toNat_lt
 have hx:c.toNat ^^^ d.toNat<2 ^ 8:=Nat.xor_lt_two_pow hc hd
 rw [UInt8.toNat_xor]
 unfold bits
 simp [IntKind.wrap,IntKind.signed,IntKind.bits]
 show ((c.toNat ^^^ d.toNat:Nat):Int) % 256=((c.toNat ^^^ d.toNat:Nat):Int)
 omega
theorem Kw (a b:Bs) (h:a.length=b.length) (hs:a.length≤1000000000) (S:Sp w0 F0 w L):Calls Tryz.prog 224 #[.string ⟨a.toArray⟩,.string ⟨b.toArray⟩] w fun e w2=>e=.returned (.tuple #[.string ⟨(jU a b).toArray⟩,.int .i64 0])∧Sp w0 F0 w2 L:=by
 have hs':(a.length:Int)≤1000000000:=by omega
 have hcv:=run_bytes_of_string (P:=Tryz.prog) w 9 79 5 ⟨a.toArray⟩ Tryz.underlying9 Tryz.underlying79 Tryz.underlying5
 have bV:Hid (Sp w0 F0 (w.alloc (.cells (bytesRow ⟨a.toArray⟩ (grownCap w b.length 0 5)) 5 ((bytesRow ⟨a.toArray⟩ (grownCap w b.length 0 5)).size,(bytesRow ⟨a.toArray⟩ (grownCap w b.length 0 5)).size+1))).drew (ui w.heap.size a::L)):=S.FH a (grownCap w b.length 0 5)
 have hne:((a.length:Int) != b.length)=false:=by simp [h]
 have HX0:=Lib.hid (I6 a b)
 clear S
 go_enter Tryz.func224,Tryz.ntmps224
 go_wp2_with fail
 generalize (w.alloc _).drew=w1 at *
 generalize w.heap.size=g at *
 generalize grownCap w b.length 0 5=cap at *
 have WS:=Lib.hid h
 clear hcv h hne hs
 have hb':(b.length:Int)≤1000000000:=by have:=WS.out;omega
 clear hs'
 go_loopw [17] (fun i wr=>∃ k:Nat,i=.int .i64 k∧k≤b.length∧Sp w0 F0 wr (ui g (kL a b k)::L)) (fun i _=>b.length - (intOf i).toNat)
 case atStart=>exact ⟨0,rfl,Nat.zero_le _,by rw [HX0.out];exact bV.out⟩
 case round =>
  clear bV HX0
  obtain ⟨k,rfl,hk,S⟩:=hrel
  have HS:=Lib.hid S
  clear S
  by_cases hlt:k<b.length
  ·have hlt':(k:Int)<b.length:=by omega
   have hka:k<a.length:=by have:=WS.out;omega
   have hkx:k<(kL a b k).length:=by rw [vN];exact hka
   have ck:=HS.out.tH hkx
   rw [Mf a b k hka] at ck
   have fk:=HS.out.Ct hkx
   have hix:=fun w'=>tF b k hlt (k:Int) rfl w'
   have hx:=Uk a[k] b[k]
   have HST:=Lib.hid (I7 a b k hka hlt)
   have HN:=Lib.hid (HS.out.drew.FI hkx (a[k] ^^^ b[k]))
   rw [HST.out] at HN
   clear HST hkx
   generalize a[k]=c at *
   generalize b[k]=d at *
   unfold bv at ck HN
   rw [← hx] at HN
   clear hx
   go_wp2_with fail
   go_region
   all_goals
    go_wp2_with fail
    go_roundw
    case rel=>exact ⟨k+1,by go_num,by omega,by exact HN.out⟩
    case measure=>simp [intOf];omega
  ·obtain rfl:k=b.length:=by omega
   have Z9:=Lib.hid (Mg a b WS.out)
   rw [WS.out] at Z9
   rw [Z9.out] at HS
   have hbl:(jU a b).length=b.length:=by rw [lU _ _ (by rw [WS.out];exact Nat.le_refl _),WS.out]
   have hcv:=Lib.run_convert_whole (P:=Tryz.prog) wr 79 5 9 Tryz.underlying79 Tryz.underlying5 Tryz.underlying9 g 0 ⟨(jU a b).toArray⟩ (fun i hi=>by
    have hi':i<(jU a b).length:=hi
    rw [Nat.zero_add]
    exact HS.out.tH hi') cap
   have hz:(⟨(jU a b).toArray⟩:ByteArray).size=b.length:=by rw [← hbl];rfl
   rw [hz] at hcv
   have HD:=Lib.hid HS.out.drop
   clear HS hz hbl Z9
   go_wp2
   go_ret2
   exact ⟨rfl,HD.out⟩
theorem pX (x n:Nat) (w:World) (hn:n≤64):Calls Tryz.prog 255 #[.int .u64 x,.int .i64 n] w fun e w2=>e=.returned (.string ⟨(dF x n).toArray⟩)∧Ext [] w w2:=by
 have HB:=Lib.hid (Cn x n w hn)
 have HX:Hid (Ext [] w (w.alloc (.cells (iA (dF x n)) 5))):=(Ext.refl [] w).alloc _
 have hcv:=Lib.run_convert_whole (P:=Tryz.prog) (w.alloc (.cells (iA (dF x n)) 5)) 79 5 9 Tryz.underlying79 Tryz.underlying5 Tryz.underlying9 w.heap.size 0 ⟨(dF x n).toArray⟩ (fun i hi=>by
  have hi':i<(dF x n).length:=hi
  have hh:(w.alloc (.cells (iA (dF x n)) 5)).heap[w.heap.size]? = some (.cells (iA (dF x n)) 5 (0,0)):=(MapKept.heap_alloc w _).1
  rw [Nat.zero_add]
  simp only [World.cell?,hh,jH,List.getElem?_eq_getElem hi',Option.map_some]
  rfl) n
 have hz:(⟨(dF x n).toArray⟩:ByteArray).size=n:=dS n x
 rw [hz] at hcv
 clear hn hz
 go_enter Tryz.func255,Tryz.ntmps255
 go_wp2_with fail
 refine HB.out.mono ?_
 rintro e w2 ⟨rfl,rfl⟩
 go_wp2
 go_ret
 exact ⟨rfl,HX.out⟩
end
end
section
open Go.RowKit
section
variable {w0 w:World} {F0:List Nat} {L:List aT} {v:Value}
def iG (x n:Nat):Nat:=(x*2 ^ (n % 32) % 4294967296) ||| (x / 2 ^ (32 - n % 32))
theorem pY (x n:Nat) (hx:x<4294967296):iG x n<4294967296:=by
 unfold iG
 exact Nat.or_lt_two_pow (n:=32) (Nat.mod_lt _ (by decide)) (Nat.lt_of_le_of_lt (Nat.div_le_self _ _) hx)
theorem XH (a b:Nat) (ha:a<4294967296) (hb:b<4294967296):bits .or .u32 (a:Int) (b:Int)=((a ||| b:Nat):Int):=by
 have hx:a ||| b<2 ^ 32:=Nat.or_lt_two_pow ha hb
 unfold bits
 simp [IntKind.wrap,IntKind.signed,IntKind.bits]
 have e:(BitVec.ofNat 32 a ||| BitVec.ofNat 32 b).toNat=a ||| b:=by
  rw [BitVec.toNat_or,BitVec.toNat_ofNat,BitVec.toNat_ofNat,Nat.mod_eq_of_lt ha,Nat.mod_eq_of_lt hb]
 have e2:((BitVec.ofNat 32 a ||| BitVec.ofNat 32 b).toNat:Int)=((a ||| b:Nat):Int):=by rw [e]
 show ((BitVec.ofNat 32 a ||| BitVec.ofNat 32 b).toNat:Int) % 4294967296=((a ||| b:Nat):Int)
 rw [e2]
 omega
theorem Mh (x n:Nat) (hx:x<4294967296):bits .or .u32 ((x:Int)*2 ^ (n % 32) % 4294967296) ((x:Int) / 2 ^ (32 - n % 32))=(iG x n:Int):=by
 have h:=XH (x*2 ^ (n % 32) % 4294967296) (x / 2 ^ (32 - n % 32)) (Nat.mod_lt _ (by decide)) (Nat.lt_of_le_of_lt (Nat.div_le_self _ _) hx)
 rw [iG,← h]
 congr 1 <;> push_cast <;> rfl
theorem vO (x n:Nat) (hx:x<4294967296) (hn:n<32) (w:World):Calls Tryz.prog 268 #[.int .u32 x,.int .i64 n] w fun e w2=>e=.returned (.int .u32 (iG x n))∧w2=w:=by
 have hb:=Mh x n hx
 go_enter Tryz.func268,Tryz.ntmps268
 go_wp2_with fail
 go_ret
 exact ⟨rfl,rfl⟩
def ky (s:Bs):Nat→Nat
 | 0=>0
 | k+1=>ky s k ||| ((s.getD k 0).toNat*2 ^ (8*k) % 18446744073709551616)
theorem Au (s:Bs):∀ k,ky s k<18446744073709551616
 | 0=>by simp [ky]
 | k+1=>Nat.or_lt_two_pow (n:=64) (Au s k) (Nat.mod_lt _ (by decide))
theorem XI (a b:Nat) (ha:a<18446744073709551616) (hb:b<18446744073709551616):bits .or .u64 (a:Int) (b:Int)=((a ||| b:Nat):Int):=by
 have hx:a ||| b<2 ^ 64:=Nat.or_lt_two_pow ha hb
 unfold bits
 simp [IntKind.wrap,IntKind.signed,IntKind.bits]
 have e:(BitVec.ofNat 64 a ||| BitVec.ofNat 64 b).toNat=a ||| b:=by
  rw [BitVec.toNat_or,BitVec.toNat_ofNat,BitVec.toNat_ofNat,Nat.mod_eq_of_lt ha,Nat.mod_eq_of_lt hb]
 have e2:((BitVec.ofNat 64 a ||| BitVec.ofNat 64 b).toNat:Int)=((a ||| b:Nat):Int):=by rw [e]
 show ((BitVec.ofNat 64 a ||| BitVec.ofNat 64 b).toNat:Int) % 18446744073709551616=((a ||| b:Nat):Int)
 rw [e2]
 omega
theorem RI (a:Nat) (x:Int) (k:Nat) (h:x=(a:Int)):IntKind.u64.wrap (x*2 ^ (8*k))=((a*2 ^ (8*k) % 18446744073709551616:Nat):Int):=by
 subst h
 generalize hp:8*k=p
 have h2:((a*2 ^ p:Nat):Int)=(a:Int)*2 ^ p:=by rw [Int.natCast_mul,Int.natCast_pow];rfl
 rw [← h2]
 generalize a*2 ^ p=m
 simp only [IntKind.wrap,IntKind.signed,IntKind.bits]
 show ((m:Int) % 18446744073709551616)=((m % 18446744073709551616:Nat):Int)
 omega
theorem Ve (c:UInt8):IntKind.u64.wrap (c.toNat:Int)=(c.toNat:Int):=by
 have h:=c.toNat_lt
 simp only [IntKind.wrap,IntKind.signed,IntKind.bits]
 show ((c.toNat:Int) % 18446744073709551616)=(c.toNat:Int)
 omega
theorem DU (s:Bs) (k:Nat):bits .or .u64 (ky s k:Int) (IntKind.u64.wrap (((s.getD k 0).toNat:Int)*2 ^ (8*k)))=(ky s (k+1):Int):=by
 have e:IntKind.u64.wrap (((s.getD k 0).toNat:Int)*2 ^ (8*k))=(((s.getD k 0).toNat*2 ^ (8*k) % 18446744073709551616:Nat):Int):=RI _ _ k rfl
 rw [e,XI _ _ (Au s k) (Nat.mod_lt _ (by decide))]
 rfl
theorem I8 (s:Bs) (h:s.length≤8) (w:World):Calls Tryz.prog 267 #[.string ⟨s.toArray⟩] w fun e w2=>e=.returned (.tuple #[.int .u64 (ky s s.length),.int .i64 0])∧∃ q,w2=w.drewN q:=by
 have hs':(s.length:Int)≤8:=by omega
 go_enter Tryz.func267,Tryz.ntmps267
 go_wp2_with fail
 go_loopw [4,11] (fun x i wr=>∃ k q:Nat,x=.int .u64 (ky s k)∧i=.int .i64 k∧k≤s.length∧wr=w.drewN q) (fun _ i _=>s.length - (intOf i).toNat)
 case atStart=>exact ⟨0,0,rfl,rfl,Nat.zero_le _,rfl⟩
 case round =>
  obtain ⟨k,q,rfl,rfl,hk,rfl⟩:=hrel
  by_cases hlt:k<s.length
  ·have hlt':(k:Int)<s.length:=by omega
   have hix:=fun w'=>tF s k hlt (k:Int) rfl w'
   have Zc:(k:Int)<8:=by omega
   have HG:=Lib.hid (show s.getD k 0=s[k] by simp [List.getD_eq_getElem?_getD,List.getElem?_eq_getElem hlt])
   have HF:=Lib.hid (DU s k)
   rw [HG.out] at HF
   generalize s[k]=c at *
   go_wp2_with fail
   exact ⟨⟨k+1,q,by first | rw [HF.out] | rw [Ve,HF.out],by go_num,by omega,rfl⟩,by simp [intOf];omega⟩
  ·obtain rfl:k=s.length:=by omega
   go_wp2
   go_ret2
   exact ⟨rfl,q,rfl⟩
end
end
section
open Go.RowKit
section
variable {w0 w:World} {F0:List Nat} {L:List aT} {v:Value}
def jh (a b:Bs):Nat→UInt8
 | 0=>0
 | k+1=>jh a b k ||| (a.getD k 0 ^^^ b.getD k 0)
theorem yB (a b:Bs):∀ k,jh a b k=0↔∀ i,i<k→a.getD i 0=b.getD i 0
 | 0=>by simp [jh]
 | k+1=>by
  rw [jh,UInt8.or_eq_zero_iff,yB a b k,UInt8.xor_eq_zero_iff]
  constructor
  ·rintro ⟨h1,h2⟩ i hi
   rcases Nat.lt_or_ge i k with h | h
   ·exact h1 i h
   ·obtain rfl:i=k:=by omega
    exact h2
  ·exact fun h=>⟨fun i hi=>h i (by omega),h k (by omega)⟩
theorem FJ (a b:Bs) (h:a.length=b.length):(jh a b a.length == 0)=decide (a=b):=by
 rw [Bool.eq_iff_iff,beq_iff_eq,decide_eq_true_eq,yB]
 constructor
 ·intro h1
  apply List.ext_getElem h
  intro i h2 h3
  have:=h1 i h2
  simpa [List.getD_eq_getElem?_getD,List.getElem?_eq_getElem h2,List.getElem?_eq_getElem h3] using this
 ·rintro rfl i _
  rfl
theorem aaa (c d:UInt8):bits .or .u8 (c.toNat:Int) (d.toNat:Int)=((c ||| d).toNat:Int):=by
 have hc:=c.toNat_lt
 have hd:=d.toNat_lt
 have hx:c.toNat ||| d.toNat<2 ^ 8:=Nat.or_lt_two_pow hc hd
 rw [UInt8.toNat_or]
 unfold bits
 simp [IntKind.wrap,IntKind.signed,IntKind.bits]
 show ((c.toNat ||| d.toNat:Nat):Int) % 256=((c.toNat ||| d.toNat:Nat):Int)
 omega
theorem FK (a b:Bs) (ha:a.length≤1000000000) (hb:b.length≤1000000000) (S:Sp w0 F0 w L):Calls Tryz.prog 196 #[.string ⟨a.toArray⟩,.string ⟨b.toArray⟩] w fun e w2=>e=.returned (.bool (decide (a=b)))∧Sp w0 F0 w2 L:=by
 have HS:=Lib.hid S
 have ha':(a.length:Int)≤1000000000:=by omega
 have hb':(b.length:Int)≤1000000000:=by omega
 clear S
 by_cases h:a.length=b.length
 ·have HE:=Lib.hid (FJ a b h)
  have HL:=Lib.hid h
  have hne:((a.length:Int) != b.length)=false:=by simp [h]
  clear h
  go_enter Tryz.func196,Tryz.ntmps196
  go_wp2_with fail
  go_loopw [5,14] (fun u i wr=>∃ k:Nat,u=.int .u8 ((jh a b k).toNat:Int)∧i=.int .i64 k∧k≤a.length∧Sp w0 F0 wr L) (fun _ i _=>a.length - (intOf i).toNat)
  case atStart=>exact ⟨0,rfl,rfl,Nat.zero_le _,HS.out⟩
  case round =>
   clear HS
   obtain ⟨k,rfl,rfl,hk,S⟩:=hrel
   have HS:=Lib.hid S
   clear S
   by_cases hlt:k<a.length
   ·have hlt':(k:Int)<a.length:=by omega
    have hkb:k<b.length:=by have:=HL.out;omega
    have hix:=fun w'=>tF a k hlt (k:Int) rfl w'
    have hiy:=fun w'=>tF b k hkb (k:Int) rfl w'
    have HU:Hid (jh a b (k+1)=jh a b k ||| (a.getD k 0 ^^^ b.getD k 0)):=rfl
    have HG1:Hid (a.getD k 0=a[k]):=by unfold Hid;simp [List.getD_eq_getElem?_getD,List.getElem?_eq_getElem hlt]
    have HG2:Hid (b.getD k 0=b[k]):=by unfold Hid;simp [List.getD_eq_getElem?_getD,List.getElem?_eq_getElem hkb]
    rw [HG1.out,HG2.out] at HU
    have hx:=Uk a[k] b[k]
    have ho:=aaa (jh a b k) (a[k] ^^^ b[k])
    rw [← HU.out,UInt8.toNat_xor] at ho
    have Zf:=Lib.hid HS.out.drew
    clear HG1 HG2 HU HS
    generalize a[k]=c at *
    generalize b[k]=d at *
    generalize jh a b k=u at *
    go_wp2_with fail
    go_region
    all_goals
     go_wp2_with fail
     go_roundw
     case rel=>exact ⟨k+1,by first | rw [ho] | (simp only [ho]) | rw [hx,UInt8.toNat_xor,ho],by go_num,by omega,Zf.out⟩
     case measure=>simp [intOf];omega
   ·obtain rfl:k=a.length:=by omega
    clear hlt
    generalize jh a b a.length=u at *
    go_wp2
    go_ret
    refine ⟨dw ?_,HS.out⟩
    rw [← HE.out,Bool.eq_iff_iff]
    simp only [beq_iff_eq (a:=(u.toNat:Int))]
    constructor
    ·intro h
     rw [beq_iff_eq]
     exact UInt8.toNat_inj.1 (by simp;omega)
    ·intro h
     rw [beq_iff_eq] at h
     rw [h]
     rfl
 ·have hne:((a.length:Int) != b.length)=true:=by simp;omega
  have HD:Hid (decide (a=b)=false):=by
   unfold Hid
   rw [decide_eq_false_iff_not]
   rintro rfl
   exact h rfl
  clear h
  go_enter Tryz.func196,Tryz.ntmps196
  go_wp2
  go_ret
  exact ⟨by rw [HD.out];rfl,HS.out⟩
end
end
end Go.Proofs.YtangbdahnmomlaaGreatDoor
