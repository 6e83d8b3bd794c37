/- chacha: Block. Conditions: a key of 32 bytes, a nonce of 12, a counter below 2^32. -/
import Derived.Deep.RegionHeld3
import Derived.Test.YtangbdahnmomlaaGreatDoorBu05
import Derived.Test.YtangbdahnmomlaaGreatDoorBu06
import Derived.Test.YtangbdahnmomlaaGreatDoorBu15
set_option linter.unnecessarySimpa false
set_option linter.unusedSimpArgs false
set_option linter.unusedVariables false
set_option maxHeartbeats 4000000
set_option maxRecDepth 100000
namespace Go.Proofs.YtangbdahnmomlaaGreatDoor
section
open Go.RowKit
section
variable {w0 w:World} {F0:List Nat} {L:List aT} {v:Value}
theorem Px (i:Nat) (h:i<8):∃ p0 p1 p2 p3:Nat,rR.getD i []=[p0,p1,p2,p3]∧p0<16∧p1<16∧p2<16∧p3<16 ∧
  ∀ w,(Instr.index 320 (.agg dG) (.int .i64 i)).run Tryz.prog w=.ok (.agg #[.int .i64 p0,.int .i64 p1,.int .i64 p2,.int .i64 p3]) w:=by
 have:i=0∨i=1∨i=2∨i=3∨i=4∨i=5∨i=6∨i=7:=by omega
 rcases this with rfl | rfl | rfl | rfl | rfl | rfl | rfl | rfl
 ·exact ⟨0,4,8,12,rfl,by decide,by decide,by decide,by decide,fun w=>by kernel_rfl⟩
 ·exact ⟨1,5,9,13,rfl,by decide,by decide,by decide,by decide,fun w=>by kernel_rfl⟩
 ·exact ⟨2,6,10,14,rfl,by decide,by decide,by decide,by decide,fun w=>by kernel_rfl⟩
 ·exact ⟨3,7,11,15,rfl,by decide,by decide,by decide,by decide,fun w=>by kernel_rfl⟩
 ·exact ⟨0,5,10,15,rfl,by decide,by decide,by decide,by decide,fun w=>by kernel_rfl⟩
 ·exact ⟨1,6,11,12,rfl,by decide,by decide,by decide,by decide,fun w=>by kernel_rfl⟩
 ·exact ⟨2,7,8,13,rfl,by decide,by decide,by decide,by decide,fun w=>by kernel_rfl⟩
 ·exact ⟨3,4,9,14,rfl,by decide,by decide,by decide,by decide,fun w=>by kernel_rfl⟩
theorem SE (p0 p1 p2 p3 k:Nat) (h:k<4):(#[Value.int .i64 p0,.int .i64 p1,.int .i64 p2,.int .i64 p3])[k]? = some (.int .i64 (([p0,p1,p2,p3].getD k 0:Nat):Int)):=by
 have:k=0∨k=1∨k=2∨k=3:=by omega
 rcases this with rfl | rfl | rfl | rfl <;> rfl
theorem VA (q:W4) (k:Nat) (h:k<4):(#[Value.int .u32 q.a,.int .u32 q.b,.int .u32 q.c,.int .u32 q.d])[k]? = some (.int .u32 (q.get k:Int)):=by
 have:k=0∨k=1∨k=2∨k=3:=by omega
 rcases this with rfl | rfl | rfl | rfl <;> rfl
theorem SG (p0 p1 p2 p3 k:Nat) (h0:p0<16) (h1:p1<16) (h2:p2<16) (h3:p3<16):[p0,p1,p2,p3].getD k 0<16:=by
 match k with
 | 0=>exact h0
 | 1=>exact h1
 | 2=>exact h2
 | 3=>exact h3
 | _+4=>exact Nat.zero_lt_succ 15
theorem SH (q:W4) (hq:q.fit) (w:World):Calls Tryz.prog 254 #[.agg #[.int .u32 q.a,.int .u32 q.b,.int .u32 q.c,.int .u32 q.d]] w fun e w2=>e=.returned (.agg #[.int .u32 (q.upto 2).a,.int .u32 (q.upto 2).b,.int .u32 (q.upto 2).c,.int .u32 (q.upto 2).d])∧Ext [] w w2 :=
 (Vj q hq (Sp.nil w [])).mono fun _ _ ⟨he,S⟩=>⟨he,S.ext⟩
abbrev AZ:Array Value:=#[.int .u32 0,.int .u32 0,.int .u32 0,.int .u32 0]
abbrev zF:Array Value:=#[.int .u32 0,.int .u32 0,.int .u32 0,.int .u32 0,.int .u32 0,.int .u32 0,.int .u32 0,.int .u32 0,.int .u32 0,.int .u32 0,.int .u32 0,.int .u32 0,.int .u32 0,.int .u32 0,.int .u32 0,.int .u32 0]
theorem SI (key aB:Bs) (n:Nat) (hk:key.length=32) (hz:aB.length=12) (hn:n<4294967296) (S:Sp w0 F0 w L):Calls Tryz.prog 237 #[.string ⟨key.toArray⟩,.int .u32 n,.string ⟨aB.toArray⟩] w fun e w2=>e=.returned (.tuple #[.string ⟨(Mr key n aB).toArray⟩,.int .i64 0])∧Sp w0 F0 w2 L:=by
 have lW:=Lib.hid (Um key aB hk hz w)
 have VB:=Lib.hid (RS key aB n hk hz hn S)
 have Zw:Hid (Mr key n aB=uk (roundUp (oJ key n aB) 10) (oJ key n aB) 16):=rfl
 have BV:Hid ((oJ key n aB).length=16):=nE _ _
 have HFF:Hid (vV (oJ key n aB)):=yG _ _
 generalize Mr key n aB=bk at *
 generalize oJ key n aB=f at *
 clear S hk hz hn
 go_enter Tryz.func237,Tryz.ntmps237
 go_wp2_with fail
 refine lW.out.mono ?_
 rintro e w2 ⟨rfl,rfl⟩
 go_wp2_with fail
 refine VB.out.mono ?_
 rintro e w3 ⟨rfl,S⟩
 have b1:(w3.alloc (.cells zF 318)).heap[w3.heap.size]? = some (.cells (aG (List.replicate 16 0)) 318 (0,0)):=(MapKept.heap_alloc w3 _).1
 have bX:Hid (Sp w0 F0 ((w3.alloc (.cells zF 318)).setRow w3.heap.size (aG f)) (ae w3.heap.size (aG f) 318::L)):=Lib.hid ((S.box (aG (List.replicate 16 0)) 318).setRow (aG f))
 clear S lW VB
 go_upto_region 4 with (first
  | refine wpList_store_row rfl 318 _ _ rfl w3.heap.size (aG f) rfl rfl 318 _ b1 (ng BV.out) (by rw [fO,fO,BV.out];rfl) (kV _) ?_
  | fail)
 generalize (w3.alloc (.cells zF 318)).setRow w3.heap.size (aG f)=w4 at *
 generalize w3.heap.size=g8 at *
 clear b1
 simp only [Act.put]
 go_cut [9,10] (fun v9 v10 wx=>∃ g9 g10:Nat,v9=.pointer (some ⟨g9,0,none⟩)∧v10=.pointer (some ⟨g10,0,none⟩)∧Sp w0 F0 wx (ae g9 (aG f) 318::ae g10 dG 320::ae g8 (aG f) 318::L))
 case first =>
  generalize hA:({ tmps:=_,defers:=[] }:Act)=a0
  have hsz:a0.tmps.size=79:=by rw [← hA];rfl
  have e8:a0.eval (.tmp 8)=.pointer (some ⟨g8,0,none⟩):=by rw [← hA];rfl
  have p25:∀ v25 v26 v9 v10 x,((((a0.put (some 25) v25).put (some 26) v26).put (some 9) v9).put (some 10) v10).put (some 25) x=(((a0.put (some 25) x).put (some 26) v26).put (some 9) v9).put (some 10) v10:=fun v25 v26 v9 v10 x=>by rw [bA _ 10 25 _ _ (by decide),bA _ 9 25 _ _ (by decide),bA _ 26 25 _ _ (by decide),fV]
  have p26:∀ v25 v26 v9 v10 x,((((a0.put (some 25) v25).put (some 26) v26).put (some 9) v9).put (some 10) v10).put (some 26) x=(((a0.put (some 25) v25).put (some 26) x).put (some 9) v9).put (some 10) v10:=fun v25 v26 v9 v10 x=>by rw [bA _ 10 26 _ _ (by decide),bA _ 9 26 _ _ (by decide),fV]
  have p9:∀ v25 v26 v9 v10 x,((((a0.put (some 25) v25).put (some 26) v26).put (some 9) v9).put (some 10) v10).put (some 9) x=(((a0.put (some 25) v25).put (some 26) v26).put (some 9) x).put (some 10) v10:=fun v25 v26 v9 v10 x=>by rw [bA _ 10 9 _ _ (by decide),fV]
  have X6:∀ v25 v26 v9 v10 x,((((a0.put (some 25) v25).put (some 26) v26).put (some 9) v9).put (some 10) v10).put (some 10) x=(((a0.put (some 25) v25).put (some 26) v26).put (some 9) v9).put (some 10) x:=fun v25 v26 v9 v10 x=>fV _ _ _ _
  refine BQ (by kernel_rfl) (by kernel_rfl) (fun l a w=>∃ (v25 v26 v9 v10:Value) (M9 NS:List aT),a=(((a0.put (some 25) v25).put (some 26) v26).put (some 9) v9).put (some 10) v10∧(l 4=true→l 2=true)∧(l 5=true→l 3=true)∧(l 0=true→v25=.agg (aG f))∧(l 1=true→v26=.agg dG) ∧
   ((l 2=true∧∃ g,v9=.pointer (some ⟨g,0,none⟩)∧M9=[ae g (if l 4 then aG f else aG (List.replicate 16 0)) 318])∨(l 2=false∧M9=[])) ∧
   ((l 3=true∧∃ g,v10=.pointer (some ⟨g,0,none⟩)∧NS=[ae g (if l 5 then dG else qd) 320])∨(l 3=false∧NS=[]))∧Sp w0 F0 w (M9++(NS++(ae g8 (aG f) 318::L)))) ?_ ?_ ?_
  ·refine ⟨a0.tmps.getD 25 undef,a0.tmps.getD 26 undef,a0.tmps.getD 9 undef,a0.tmps.getD 10 undef,[],[],?_,by simp,by simp,by simp,by simp,.inr ⟨rfl,rfl⟩,.inr ⟨rfl,rfl⟩,bX.out.drew⟩
   rw [fZ a0 25 (by rw [hsz];decide),fZ a0 26 (by rw [hsz];decide),fZ a0 9 (by rw [hsz];decide),fZ a0 10 (by rw [hsz];decide)]
  ·rintro l a w i o ⟨v25,v26,v9,v10,M9,NS,rfl,h42,h53,h0,h1,h2,h3,S⟩ ho hl hpre
   have hi:i=0∨i=1∨i=2∨i=3∨i=4∨i=5:=by
    have:=(Array.getElem?_eq_some_iff.1 ho).1
    simp at this
    omega
   rcases hi with rfl | rfl | rfl | rfl | rfl | rfl
   ·cases ho
    refine ⟨rfl,?_⟩
    have hb:=(Sp.drops NS (Sp.drops M9 S)).boxed
    refine wp_load_row 318 _ rfl g8 (by rw [az _ 10 8 _ (by decide),az _ 9 8 _ (by decide),az _ 26 8 _ (by decide),az _ 25 8 _ (by decide),e8]) 318 (aG f) (0,0) _ hb Tryz.underlying318 rfl (ng BV.out) ?_
    exact ⟨.agg (aG f),v26,v9,v10,M9,NS,p25 _ _ _ _ _,by simpa using h42,by simpa using h53,fun _=>rfl,by simpa using h1,by simpa using h2,by simpa using h3,S⟩
   ·cases ho
    refine ⟨rfl,?_⟩
    refine Oper.wp_mono (K:=fun a2 w2=>a2=((((a0.put (some 25) v25).put (some 26) v26).put (some 9) v9).put (some 10) v10).put (some 26) (.agg dG)∧Sp w0 F0 w2 (M9++(NS++(ae g8 (aG f) 318::L)))) ?_ ?_
    ·rintro a2 w2 ⟨rfl,S2⟩
     exact ⟨v25,.agg dG,v9,v10,M9,NS,p26 _ _ _ _ _,by simpa using h42,by simpa using h53,by simpa using h0,fun _=>rfl,by simpa using h2,by simpa using h3,S2⟩
    ·generalize ((((a0.put (some 25) v25).put (some 26) v26).put (some 9) v9).put (some 10) v10)=a1
     go_simp
     refine (Ms S).mono ?_
     rintro e w7 ⟨rfl,S7⟩
     exact ⟨rfl,S7⟩
   ·cases ho
    refine ⟨rfl,?_⟩
    refine Oper.wp_mono (K:=fun a2 w2=>a2=((((a0.put (some 25) v25).put (some 26) v26).put (some 9) v9).put (some 10) v10).put (some 9) (.pointer (some ⟨w.heap.size,0,none⟩))∧w2=w.alloc (.cells zF 318)) ?_ ?_
    ·rintro a2 w2 ⟨rfl,rfl⟩
     obtain rfl:M9=[]:=by
      rcases h2 with ⟨h,_⟩ | ⟨_,h⟩
      ·rw [hl] at h;cases h
      ·exact h
     have h4:l 4=false:=by
      cases h:l 4 with
      | false=>rfl
      | true=>rw [h42 h] at hl;cases hl
     exact ⟨v25,v26,_,v10,[ae w.heap.size (aG (List.replicate 16 0)) 318],NS,p9 _ _ _ _ _,by simp,by simpa using h53,by simpa using h0,by simpa using h1,.inl ⟨by simp,_,rfl,by simp [h4]⟩,by simpa using h3,S.box (aG (List.replicate 16 0)) 318⟩
    ·generalize ((((a0.put (some 25) v25).put (some 26) v26).put (some 9) v9).put (some 10) v10)=a1
     go_simp
   ·cases ho
    refine ⟨rfl,?_⟩
    refine Oper.wp_mono (K:=fun a2 w2=>a2=((((a0.put (some 25) v25).put (some 26) v26).put (some 9) v9).put (some 10) v10).put (some 10) (.pointer (some ⟨w.heap.size,0,none⟩))∧w2=w.alloc (.cells qd 320)) ?_ ?_
    ·rintro a2 w2 ⟨rfl,rfl⟩
     obtain rfl:NS=[]:=by
      rcases h3 with ⟨h,_⟩ | ⟨_,h⟩
      ·rw [hl] at h;cases h
      ·exact h
     have h5:l 5=false:=by
      cases h:l 5 with
      | false=>rfl
      | true=>rw [h53 h] at hl;cases hl
     have S2:=S.box qd 320
     rcases h2 with ⟨h2a,g,rfl,rfl⟩ | ⟨h2a,rfl⟩
     ·exact ⟨v25,v26,_,_,[ae g (if l 4=true then aG f else aG (List.replicate 16 0)) 318],[ae w.heap.size qd 320],X6 _ _ _ _ _,by simpa using h42,by simp,by simpa using h0,by simpa using h1,.inl ⟨by simp [h2a],g,rfl,by simp⟩,.inl ⟨by simp,_,rfl,by simp [h5]⟩,S2.ak⟩
     ·exact ⟨v25,v26,_,_,[],[ae w.heap.size qd 320],X6 _ _ _ _ _,by simpa using h42,by simp,by simpa using h0,by simpa using h1,.inr ⟨by simp [h2a],rfl⟩,.inl ⟨by simp,_,rfl,by simp [h5]⟩,S2⟩
    ·generalize ((((a0.put (some 25) v25).put (some 26) v26).put (some 9) v9).put (some 10) v10)=a1
     go_simp
     rfl
   ·cases ho
    refine ⟨rfl,?_⟩
    have hl2:l 2=true:=hpre ⟨2,.data⟩ (by simp) rfl
    have hl0:l 0=true:=hpre ⟨0,.data⟩ (by simp) rfl
    obtain rfl:=h0 hl0
    rcases h2 with ⟨_,g,rfl,rfl⟩ | ⟨h,_⟩
    ·rw [hl,if_neg (by simp)] at S
     refine wp_store_row 318 _ _ rfl g (aG f) (by rw [az _ 10 9 _ (by decide),dM _ 9 _ (by rw [kK,kK,hsz];decide)]) (by rw [az _ 10 25 _ (by decide),az _ 9 25 _ (by decide),az _ 26 25 _ (by decide),dM _ 25 _ (by rw [hsz];decide)]) 318 _ S.boxed (ng BV.out) (by rw [fO,fO,BV.out];rfl) (kV _) ?_
     exact ⟨_,v26,_,v10,[ae g (aG f) 318],NS,rfl,by simp [hl2],by simpa using h53,fun _=>rfl,by simpa using h1,.inl ⟨by simp [hl2],g,rfl,by simp⟩,by simpa using h3,S.setRow (aG f)⟩
    ·rw [hl2] at h;cases h
   ·cases ho
    refine ⟨rfl,?_⟩
    have hl3:l 3=true:=hpre ⟨3,.data⟩ (by simp) rfl
    have hl1:l 1=true:=hpre ⟨1,.data⟩ (by simp) rfl
    obtain rfl:=h1 hl1
    rcases h3 with ⟨_,g,rfl,rfl⟩ | ⟨h,_⟩
    ·rw [hl,if_neg (by simp)] at S
     have hb:w.heap[g]? = some (.cells qd 320 (0,0)):=(Sp.drops M9 S).boxed
     refine wp_store_row 320 _ _ rfl g dG (by rw [dM _ 10 _ (by rw [kK,kK,kK,hsz];decide)]) (by rw [az _ 10 26 _ (by decide),az _ 9 26 _ (by decide),dM _ 26 _ (by rw [kK,hsz];decide)]) 320 _ hb (by kernel_rfl) (by kernel_rfl) (by kernel_rfl) ?_
     refine ⟨v25,_,v9,_,M9,[ae g dG 320],rfl,by simpa using h42,by simp [hl3],by simpa using h0,fun _=>rfl,by simpa using h2,.inl ⟨by simp [hl3],g,rfl,by simp⟩,?_⟩
     rcases h2 with ⟨_,g9,rfl,rfl⟩ | ⟨_,rfl⟩
     ·exact (S.ak.setRow dG).ak
     ·exact S.setRow dG
    ·rw [hl3] at h;cases h
  ·rintro l a w hl ⟨v25,v26,v9,v10,M9,NS,rfl,h42,h53,h0,h1,h2,h3,S⟩
   have e0:=hl 0 (by decide)
   have e1:=hl 1 (by decide)
   have e2:=hl 2 (by decide)
   have e3:=hl 3 (by decide)
   have e4:=hl 4 (by decide)
   have e5:=hl 5 (by decide)
   rcases h2 with ⟨_,g9,rfl,rfl⟩ | ⟨h,_⟩
   ·rcases h3 with ⟨_,g10,rfl,rfl⟩ | ⟨h,_⟩
    ·rw [e4,e5,if_pos rfl,if_pos rfl] at S
     rw [← hA]
     simp only [Act.put]
     go_wp2_with fail
     go_meet
     exact ⟨g9,g10,rfl,rfl,S⟩
    ·rw [e3] at h;cases h
   ·rw [e2] at h;cases h
 case rest =>
  obtain ⟨g9,g10,rfl,rfl,S⟩:=hcut
  have HS2:=Lib.hid S
  clear S bX
  go_wp2_with fail
  go_loopw [27] (fun i wr=>∃ k:Nat,i=.int .i64 k∧k≤10∧Sp w0 F0 wr (ae g9 (aG (roundUp f k)) 318::ae g10 dG 320::ae g8 (aG f) 318::L)) (fun i _=>10 - (intOf i).toNat)
  case atStart=>exact ⟨0,rfl,by decide,HS2.out⟩
  case round =>
   clear HS2
   obtain ⟨k,rfl,hk,S⟩:=hrel
   have HS:=Lib.hid S
   have HL:=Lib.hid ((rT f k).trans BV.out)
   have HU:=Lib.hid (yF HFF.out k)
   clear S
   by_cases hlt:k<10
   ·have hlt':(k:Int)<10:=by omega
    have HE:Hid (mH (roundUp f k) 8=roundUp f (k+1)):=rfl
    generalize roundUp f k=r at *
    have b10:=HS.out.ak.boxed
    go_wp2_with (first
     | refine wpList_load_row rfl 320 _ rfl g10 rfl 320 dG (0,0) _ b10 Tryz.underlying320 rfl (by kernel_rfl) ?_
     | fail)
    clear b10
    go_wp2_with fail
    go_loopw [30] (fun i wq=>∃ m:Nat,i=.int .i64 m∧m≤8∧Sp w0 F0 wq (ae g9 (aG (mH r m)) 318::ae g10 dG 320::ae g8 (aG f) 318::L)) (fun i _=>8 - (intOf i).toNat)
    case atStart=>exact ⟨0,rfl,by decide,HS.out⟩
    case round =>
     clear HS
     obtain ⟨m,rfl,hm,S⟩:=hrel
     have bI:=Lib.hid S
     have MQ:=Lib.hid ((oI r m).trans HL.out)
     have HU3:=Lib.hid (qb HU.out m)
     clear S
     by_cases hlm:m<8
     ·have SC:(m:Int)<8:=by omega
      have HE3:Hid (oG (mH r m) (rR.getD m []) ((q4 (mH r m) (rR.getD m [])).upto 2) 4=mH r (m+1)):=rfl
      obtain ⟨p0,p1,p2,p3,hp,h0,h1,h2,h3,hix⟩:=Px m hlm
      rw [hp] at HE3
      have HQ:=Lib.hid (O0 HU3.out [p0,p1,p2,p3])
      generalize mH r m=s at *
      have gP:=Lib.hid (bI.out.box #[.int .i64 p0,.int .i64 p1,.int .i64 p2,.int .i64 p3] 258)
      clear hp bI
      go_upto_region 10 with (fail)
      generalize (wr.alloc _)=wr2 at *
      generalize wr.heap.size=g12 at *
      have HST:Hid (∀ W,Calls Tryz.prog 254 #[.agg #[.int .u32 (s.getD p0 0:Nat),.int .u32 (s.getD p1 0:Nat),.int .u32 (s.getD p2 0:Nat),.int .u32 (s.getD p3 0:Nat)]] W fun e w2=>e=.returned (.agg #[.int .u32 ((q4 s [p0,p1,p2,p3]).upto 2).a,.int .u32 ((q4 s [p0,p1,p2,p3]).upto 2).b,.int .u32 ((q4 s [p0,p1,p2,p3]).upto 2).c,.int .u32 ((q4 s [p0,p1,p2,p3]).upto 2).d])∧Ext [] W w2):=fun W=>SH (q4 s [p0,p1,p2,p3]) HQ.out W
      have HQU:=Lib.hid (W4.oW _ HQ.out 2)
      generalize (q4 s [p0,p1,p2,p3]).upto 2=z at *
      have HF:Hid (∀ wx,Sp w0 F0 wx (ae g12 #[.int .i64 p0,.int .i64 p1,.int .i64 p2,.int .i64 p3] 258::ae g9 (aG s) 318::ae g10 dG 320::ae g8 (aG f) 318::L) →
        Sp w0 F0 wx (ae g12 #[.int .i64 p0,.int .i64 p1,.int .i64 p2,.int .i64 p3] 258::ae g9 (aG s) 318::ae g10 dG 320::ae g8 (aG f) 318::L)∧(∀ o,wx.cell? ⟨g12,o,none⟩=(#[.int .i64 p0,.int .i64 p1,.int .i64 p2,.int .i64 p3])[o]?) ∧
        wx.cell? ⟨g9,p0,none⟩=some (.int .u32 (s.getD p0 0:Nat))∧wx.cell? ⟨g9,p1,none⟩=some (.int .u32 (s.getD p1 0:Nat))∧wx.cell? ⟨g9,p2,none⟩=some (.int .u32 (s.getD p2 0:Nat))∧wx.cell? ⟨g9,p3,none⟩=some (.int .u32 (s.getD p3 0:Nat))):=fun wx S=>⟨S,S.cell,S.ak.uP (by rw [MQ.out];exact h0),S.ak.uP (by rw [MQ.out];exact h1),S.ak.uP (by rw [MQ.out];exact h2),S.ak.uP (by rw [MQ.out];exact h3)⟩
      generalize s.getD p0 0=x0 at *
      generalize s.getD p1 0=x1 at *
      generalize s.getD p2 0=x2 at *
      generalize s.getD p3 0=x3 at *
      have h0':(p0:Int)<16:=by omega
      have h1':(p1:Int)<16:=by omega
      have h2':(p2:Int)<16:=by omega
      have h3':(p3:Int)<16:=by omega
      go_cut [13] (fun v13 wx=>∃ g13:Nat,v13=.pointer (some ⟨g13,0,none⟩)∧Sp w0 F0 wx (ae g9 (aG s) 318::ae g12 #[.int .i64 p0,.int .i64 p1,.int .i64 p2,.int .i64 p3] 258::ae g13 #[.int .u32 z.a,.int .u32 z.b,.int .u32 z.c,.int .u32 z.d] 322::ae g10 dG 320::ae g8 (aG f) 318::L))
      case first =>
       refine wp_region_held (S:=fun wx=>Sp w0 F0 wx (ae g12 #[.int .i64 p0,.int .i64 p1,.int .i64 p2,.int .i64 p3] 258::ae g9 (aG s) 318::ae g10 dG 320::ae g8 (aG f) 318::L)∧(∀ o,wx.cell? ⟨g12,o,none⟩=(#[.int .i64 p0,.int .i64 p1,.int .i64 p2,.int .i64 p3])[o]?)∧wx.cell? ⟨g9,p0,none⟩=some (.int .u32 x0)∧wx.cell? ⟨g9,p1,none⟩=some (.int .u32 x1)∧wx.cell? ⟨g9,p2,none⟩=some (.int .u32 x2)∧wx.cell? ⟨g9,p3,none⟩=some (.int .u32 x3)) (by kernel_rfl) ?_
       have hS0:=HF.out _ gP.out.drew
       refine aI (i:=0) 33 (v:=?_) rfl rfl (by kernel_rfl) (by kernel_rfl) (by kernel_rfl) (fun _ _ _ h=>h) (Or.inl ⟨by rfl,?_⟩) hS0 ?_
       rotate_left 1
       ·rintro wS ⟨s0,s1,s2,s3,s4,s5⟩
        go_simp
        try with_reducible rfl
       simp only [Act.put,List.setIfInBounds_toArray,List.set_cons_zero,List.set_cons_succ]
       refine aI (i:=1) 34 (v:=?_) rfl rfl (by kernel_rfl) (by kernel_rfl) (by kernel_rfl) (fun _ _ _ h=>h) (Or.inl ⟨by rfl,?_⟩) hS0 ?_
       rotate_left 1
       ·rintro wS ⟨s0,s1,s2,s3,s4,s5⟩
        go_simp
        try with_reducible rfl
       simp only [Act.put,List.setIfInBounds_toArray,List.set_cons_zero,List.set_cons_succ]
       refine aI (i:=2) 35 (v:=?_) rfl rfl (by kernel_rfl) (by kernel_rfl) (by kernel_rfl) (fun _ _ _ h=>h) (Or.inl ⟨by rfl,?_⟩) hS0 ?_
       rotate_left 1
       ·rintro wS ⟨s0,s1,s2,s3,s4,s5⟩
        go_simp
        try with_reducible rfl
       simp only [Act.put,List.setIfInBounds_toArray,List.set_cons_zero,List.set_cons_succ]
       refine aI (i:=3) 36 (v:=?_) rfl rfl (by kernel_rfl) (by kernel_rfl) (by kernel_rfl) (fun _ _ _ h=>h) (Or.inl ⟨by rfl,?_⟩) hS0 ?_
       rotate_left 1
       ·rintro wS ⟨s0,s1,s2,s3,s4,s5⟩
        go_simp
        try with_reducible rfl
       simp only [Act.put,List.setIfInBounds_toArray,List.set_cons_zero,List.set_cons_succ]
       refine aI (i:=4) 37 (v:=?_) rfl rfl (by kernel_rfl) (by kernel_rfl) (by kernel_rfl) (fun _ _ _ h=>h) (Or.inl ⟨by rfl,?_⟩) hS0 ?_
       rotate_left 1
       ·rintro wS ⟨s0,s1,s2,s3,s4,s5⟩
        go_simp
        try with_reducible rfl
       simp only [Act.put,List.setIfInBounds_toArray,List.set_cons_zero,List.set_cons_succ]
       refine aI (i:=5) 38 (v:=?_) rfl rfl (by kernel_rfl) (by kernel_rfl) (by kernel_rfl) (fun _ _ _ h=>h) (Or.inl ⟨by rfl,?_⟩) hS0 ?_
       rotate_left 1
       ·rintro wS ⟨s0,s1,s2,s3,s4,s5⟩
        go_simp
        try with_reducible rfl
       simp only [Act.put,List.setIfInBounds_toArray,List.set_cons_zero,List.set_cons_succ]
       refine aI (i:=6) 39 (v:=?_) rfl rfl (by kernel_rfl) (by kernel_rfl) (by kernel_rfl) (fun _ _ _ h=>h) (Or.inl ⟨by rfl,?_⟩) hS0 ?_
       rotate_left 1
       ·rintro wS ⟨s0,s1,s2,s3,s4,s5⟩
        go_simp
        try with_reducible rfl
       simp only [Act.put,List.setIfInBounds_toArray,List.set_cons_zero,List.set_cons_succ]
       refine aI (i:=7) 40 (v:=?_) rfl rfl (by kernel_rfl) (by kernel_rfl) (by kernel_rfl) (fun _ _ _ h=>h) (Or.inl ⟨by rfl,?_⟩) hS0 ?_
       rotate_left 1
       ·rintro wS ⟨s0,s1,s2,s3,s4,s5⟩
        go_simp
        try with_reducible rfl
       simp only [Act.put,List.setIfInBounds_toArray,List.set_cons_zero,List.set_cons_succ]
       refine aI (i:=8) 41 (v:=?_) rfl rfl (by kernel_rfl) (by kernel_rfl) (by kernel_rfl) (fun _ _ _ h=>h) (Or.inl ⟨by rfl,?_⟩) hS0 ?_
       rotate_left 1
       ·rintro wS ⟨s0,s1,s2,s3,s4,s5⟩
        go_simp
        try with_reducible rfl
       simp only [Act.put,List.setIfInBounds_toArray,List.set_cons_zero,List.set_cons_succ]
       refine aI (i:=9) 42 (v:=?_) rfl rfl (by kernel_rfl) (by kernel_rfl) (by kernel_rfl) (fun _ _ _ h=>h) (Or.inl ⟨by rfl,?_⟩) hS0 ?_
       rotate_left 1
       ·rintro wS ⟨s0,s1,s2,s3,s4,s5⟩
        go_simp
        try with_reducible rfl
       simp only [Act.put,List.setIfInBounds_toArray,List.set_cons_zero,List.set_cons_succ]
       refine aI (i:=10) 43 (v:=?_) rfl rfl (by kernel_rfl) (by kernel_rfl) (by kernel_rfl) (fun _ _ _ h=>h) (Or.inl ⟨by rfl,?_⟩) hS0 ?_
       rotate_left 1
       ·rintro wS ⟨s0,s1,s2,s3,s4,s5⟩
        go_simp
        try with_reducible rfl
       simp only [Act.put,List.setIfInBounds_toArray,List.set_cons_zero,List.set_cons_succ]
       refine aI (i:=11) 44 (v:=?_) rfl rfl (by kernel_rfl) (by kernel_rfl) (by kernel_rfl) (fun _ _ _ h=>h) (Or.inl ⟨by rfl,?_⟩) hS0 ?_
       rotate_left 1
       ·rintro wS ⟨s0,s1,s2,s3,s4,s5⟩
        go_simp
        try with_reducible rfl
       simp only [Act.put,List.setIfInBounds_toArray,List.set_cons_zero,List.set_cons_succ]
       refine aI (i:=12) 45 (v:=?_) rfl rfl (by kernel_rfl) (by kernel_rfl) (by kernel_rfl) (fun _ _ _ h=>h) (Or.inl ⟨by rfl,?_⟩) hS0 ?_
       rotate_left 1
       ·rintro wS ⟨s0,s1,s2,s3,s4,s5⟩
        go_simp
        try with_reducible rfl
       simp only [Act.put,List.setIfInBounds_toArray,List.set_cons_zero,List.set_cons_succ]
       refine aI (i:=13) 46 (v:=?_) rfl rfl (by kernel_rfl) (by kernel_rfl) (by kernel_rfl) (fun _ _ _ h=>h) (Or.inl ⟨by rfl,?_⟩) hS0 ?_
       rotate_left 1
       ·rintro wS ⟨s0,s1,s2,s3,s4,s5⟩
        go_simp
        try with_reducible rfl
       simp only [Act.put,List.setIfInBounds_toArray,List.set_cons_zero,List.set_cons_succ]
       refine aI (i:=14) 47 (v:=?_) rfl rfl (by kernel_rfl) (by kernel_rfl) (by kernel_rfl) (fun _ _ _ h=>h) (Or.inl ⟨by rfl,?_⟩) hS0 ?_
       rotate_left 1
       ·rintro wS ⟨s0,s1,s2,s3,s4,s5⟩
        go_simp
        try with_reducible rfl
       simp only [Act.put,List.setIfInBounds_toArray,List.set_cons_zero,List.set_cons_succ]
       refine aI (i:=15) 48 (v:=?_) rfl rfl (by kernel_rfl) (by kernel_rfl) (by kernel_rfl) (fun _ _ _ h=>h) (Or.inl ⟨by rfl,?_⟩) hS0 ?_
       rotate_left 1
       ·rintro wS ⟨s0,s1,s2,s3,s4,s5⟩
        go_simp
        try with_reducible rfl
       simp only [Act.put,List.setIfInBounds_toArray,List.set_cons_zero,List.set_cons_succ]
       refine aI (i:=16) 49 (v:=?_) rfl rfl (by kernel_rfl) (by kernel_rfl) (by kernel_rfl) (fun _ _ _ h=>h) (Or.inl ⟨by rfl,?_⟩) hS0 ?_
       rotate_left 1
       ·rintro wS ⟨s0,s1,s2,s3,s4,s5⟩
        go_simp
        try with_reducible rfl
       simp only [Act.put,List.setIfInBounds_toArray,List.set_cons_zero,List.set_cons_succ]
       refine uK (fun a0 hA=>?_)
       have hsz:a0.tmps.size=79:=by rw [← hA];rfl
       have e49:a0.eval (.tmp 49)=.agg #[.int .u32 x0,.int .u32 x1,.int .u32 x2,.int .u32 x3]:=by rw [← hA];rfl
       have p50:∀ v50 v13 x,((a0.put (some 50) v50).put (some 13) v13).put (some 50) x=(a0.put (some 50) x).put (some 13) v13:=fun v50 v13 x=>by rw [bA _ 13 50 _ _ (by decide),fV]
       refine uJ (by kernel_rfl) (fun l a w=>(∀ j,j<17→l j=true)∧∃ (v50 v13:Value) (M:List aT),a=(a0.put (some 50) v50).put (some 13) v13∧(l 19=true→l 18=true)∧(l 17=true→v50=.agg #[.int .u32 z.a,.int .u32 z.b,.int .u32 z.c,.int .u32 z.d]) ∧
        ((l 18=true∧∃ g,v13=.pointer (some ⟨g,0,none⟩)∧M=[ae g (if l 19 then #[.int .u32 z.a,.int .u32 z.b,.int .u32 z.c,.int .u32 z.d] else AZ) 322])∨(l 18=false∧M=[]))∧Sp w0 F0 w (M++(ae g12 #[.int .i64 p0,.int .i64 p1,.int .i64 p2,.int .i64 p3] 258::ae g9 (aG s) 318::ae g10 dG 320::ae g8 (aG f) 318::L))) ?_ ?_ _ _ _ _ (by kernel_rfl) (by kernel_rfl) ?_
       ·rintro l a w i o ⟨SK,v50,v13,M,rfl,h98,h7,h8,S⟩ ho hl hpre
        have hi:i=17∨i=18∨i=19:=by
         have h1:=(Array.getElem?_eq_some_iff.1 ho).1
         simp at h1
         have h2:¬ i<17:=fun h=>by rw [SK i h] at hl;cases hl
         omega
        rcases hi with rfl | rfl | rfl
        ·cases ho
         refine ⟨rfl,?_⟩
         refine Oper.wp_mono (K:=fun a2 w2=>a2=((a0.put (some 50) v50).put (some 13) v13).put (some 50) (.agg #[.int .u32 z.a,.int .u32 z.b,.int .u32 z.c,.int .u32 z.d])∧Ext [] w w2) ?_ ?_
         ·rintro a2 w2 ⟨rfl,hx⟩
          have S2:=S.iq hx
          exact ⟨HF.out _ (Sp.drops M S2),fun j hj=>by simp [SK j hj],_,v13,M,p50 _ _ _,by simpa using h98,fun _=>rfl,by simpa using h8,S2⟩
         ·have e:((a0.put (some 50) v50).put (some 13) v13).eval (.tmp 49)=.agg #[.int .u32 x0,.int .u32 x1,.int .u32 x2,.int .u32 x3]:=by rw [az _ 13 49 _ (by decide),az _ 50 49 _ (by decide),e49]
          generalize (a0.put (some 50) v50).put (some 13) v13=a1 at *
          go_simp
          rw [show a1.tmps[49]?.getD undef=.agg #[.int .u32 x0,.int .u32 x1,.int .u32 x2,.int .u32 x3] from by rw [← Array.getD_eq_getD_getElem?];exact e]
          refine (HST.out w).mono ?_
          rintro e2 w7 ⟨rfl,hx⟩
          exact ⟨rfl,hx⟩
        ·cases ho
         refine ⟨rfl,?_⟩
         refine Oper.wp_mono (K:=fun a2 w2=>a2=((a0.put (some 50) v50).put (some 13) v13).put (some 13) (.pointer (some ⟨w.heap.size,0,none⟩))∧w2=w.alloc (.cells AZ 322)) ?_ ?_
         ·rintro a2 w2 ⟨rfl,rfl⟩
          obtain rfl:M=[]:=by
           rcases h8 with ⟨h,_⟩ | ⟨_,h⟩
           ·rw [hl] at h;cases h
           ·exact h
          have h9:l 19=false:=by
           cases h:l 19 with
           | false=>rfl
           | true=>rw [h98 h] at hl;cases hl
          exact ⟨HF.out _ (S.new _),fun j hj=>by simp [SK j hj],v50,_,[ae w.heap.size AZ 322],fV _ _ _ _,by simp,by simpa using h7,.inl ⟨by simp,_,rfl,by simp [h9]⟩,S.box AZ 322⟩
         ·generalize (a0.put (some 50) v50).put (some 13) v13=a1 at *
          go_simp
        ·cases ho
         refine ⟨rfl,?_⟩
         have VC:l 18=true:=hpre ⟨18,.data⟩ (by simp) rfl
         have Yc:l 17=true:=hpre ⟨17,.data⟩ (by simp) rfl
         obtain rfl:=h7 Yc
         rcases h8 with ⟨_,g,rfl,rfl⟩ | ⟨h,_⟩
         ·rw [hl,if_neg (by simp)] at S
          have hb:w.heap[g]? = some (.cells AZ 322 (0,0)):=S.boxed
          have S2:=S.setRow #[.int .u32 z.a,.int .u32 z.b,.int .u32 z.c,.int .u32 z.d]
          refine wp_store_row 322 _ _ rfl g #[.int .u32 z.a,.int .u32 z.b,.int .u32 z.c,.int .u32 z.d] (by rw [dM _ 13 _ (by rw [kK,hsz];decide)]) (by rw [az _ 13 50 _ (by decide),dM _ 50 _ (by rw [hsz];decide)]) 322 _ hb (by kernel_rfl) (by kernel_rfl) (by kernel_rfl) ?_
          exact ⟨HF.out _ S2.drop,fun j hj=>by simp [SK j hj],_,_,[ae g #[.int .u32 z.a,.int .u32 z.b,.int .u32 z.c,.int .u32 z.d] 322],rfl,by simp [VC],fun _=>rfl,.inl ⟨by simp [VC],g,rfl,by simp⟩,S2⟩
         ·rw [VC] at h;cases h
       ·rintro l a w hl ⟨_,v50,v13,M,rfl,h98,h7,h8,S⟩
        have e17:=hl 17 (by decide)
        have e18:=hl 18 (by decide)
        have e19:=hl 19 (by decide)
        obtain rfl:=h7 e17
        rcases h8 with ⟨_,g,rfl,rfl⟩ | ⟨h,_⟩
        ·rw [e19,if_pos rfl] at S
         rw [← hA]
         simp only [Act.put,List.setIfInBounds_toArray,List.set_cons_zero,List.set_cons_succ]
         go_wp2_with fail
         go_meet
         exact ⟨g,rfl,(Sp.pick [_,_,_,_] [2,1,0,3] (by decide) (S))⟩
        ·rw [e18] at h;cases h
       ·refine ⟨fun j hj=>?_,a0.tmps.getD 50 undef,a0.tmps.getD 13 undef,[],?_,by simp,by simp,.inr ⟨by rfl,rfl⟩,gP.out.drew⟩
        ·have:j=0∨j=1∨j=2∨j=3∨j=4∨j=5∨j=6∨j=7∨j=8∨j=9∨j=10∨j=11∨j=12∨j=13∨j=14∨j=15∨j=16:=by omega
         rcases this with rfl | rfl | rfl | rfl | rfl | rfl | rfl | rfl | rfl | rfl | rfl | rfl | rfl | rfl | rfl | rfl | rfl <;> rfl
        ·rw [fZ a0 50 (by rw [hsz];decide),fZ a0 13 (by rw [hsz];decide)]
      case rest =>
       obtain ⟨g13,rfl,S⟩:=hcut
       have gB:=Lib.hid S
       clear S gP HF HST
       go_wp2_with fail
       go_loopw [51] (fun i wp=>∃ q:Nat,i=.int .i64 q∧q≤4∧Sp w0 F0 wp (ae g9 (aG (oG s [p0,p1,p2,p3] z q)) 318::ae g12 #[.int .i64 p0,.int .i64 p1,.int .i64 p2,.int .i64 p3] 258::ae g13 #[.int .u32 z.a,.int .u32 z.b,.int .u32 z.c,.int .u32 z.d] 322::ae g10 dG 320::ae g8 (aG f) 318::L)) (fun i _=>4 - (intOf i).toNat)
       case atStart=>exact ⟨0,rfl,by decide,gB.out⟩
       case round =>
        clear gB
        obtain ⟨q,rfl,hq,S⟩:=hrel
        have fG:=Lib.hid S
        have NT:Hid ((oG s [p0,p1,p2,p3] z q).length=16):=(oH _ _ _ _).trans MQ.out
        by_cases hlq:q<4
        ·have aaC:(q:Int)<4:=by omega
         have cp:=S.ak.cell q
         rw [SE p0 p1 p2 p3 q hlq] at cp
         have cz:=S.dJ.cell q
         rw [VA z q hlq] at cz
         have hpl:=SG p0 p1 p2 p3 q h0 h1 h2 h3
         have HUP:Hid ((oG s [p0,p1,p2,p3] z q).set ([p0,p1,p2,p3].getD q 0) (z.get q)=oG s [p0,p1,p2,p3] z (q+1)):=rfl
         have HP:=Lib.hid (S.FX ([p0,p1,p2,p3].getD q 0) (z.get q) _ HUP.out).drew
         have cs:=S.uP (i:=[p0,p1,p2,p3].getD q 0) (by rw [NT.out];exact hpl)
         have fs:=S.free ([p0,p1,p2,p3].getD q 0)
         clear S HUP
         generalize [p0,p1,p2,p3].getD q 0=pq at *
         generalize z.get q=zq at *
         have hpl':(pq:Int)<16:=by omega
         go_wp2_with fail
         go_region
         all_goals
          go_wp2_with fail
          go_roundw
          case rel=>exact ⟨q+1,by go_num,by omega,HP.out⟩
          case measure=>simp [intOf];omega
        ·obtain rfl:q=4:=by omega
         rw [HE3.out] at fG
         go_wp2_with fail
         refine ⟨⟨m+1,by go_num,by omega,(Sp.pick [_,_,_,_,_] [0,3,4] (by decide) (fG.out))⟩,by simp [intOf];omega⟩
     ·obtain rfl:m=8:=by omega
      rw [HE.out] at bI
      go_wp2_with fail
      exact ⟨⟨k+1,by go_num,by omega,bI.out⟩,by simp [intOf];omega⟩
   ·have hlt':¬ (k:Int)<10:=by omega
    have hk10:k=10:=by omega
    have HKE:Hid (roundUp f k=roundUp f 10):=by unfold Hid;rw [hk10]
    rw [HKE.out] at HS HL
    have HB0:=Lib.hid (HS.out.vT 176)
    clear HS hk10 HKE HU
    generalize roundUp f 10=r at *
    go_wp2_with fail
    generalize (wr.alloc _)=w5 at *
    generalize wr.heap.size=g15 at *
    go_loopw [64] (fun i wp=>∃ q:Nat,i=.int .i64 q∧q≤16∧Sp w0 F0 wp (rq 176 g15 (uk r f q)::ae g9 (aG r) 318::ae g10 dG 320::ae g8 (aG f) 318::L)) (fun i _=>16 - (intOf i).toNat)
    case atStart=>exact ⟨0,rfl,by decide,HB0.out⟩
    case round =>
     clear HB0
     obtain ⟨q,rfl,hq,S⟩:=hrel
     have HS:=Lib.hid S
     have Cz:=Lib.hid (qc r f q)
     clear S
     by_cases hlq:q<16
     ·have aaC:(q:Int)<16:=by omega
      have HE:Hid (uk r f q++dF (add32 (r.getD q 0) (f.getD q 0)) 4=uk r f (q+1)):=rfl
      have xq:Hid (∀ W bb,Sp w0 F0 W (rq 176 g15 bb::ae g9 (aG r) 318::ae g10 dG 320::ae g8 (aG f) 318::L)→W.cell? ⟨g9,q,none⟩=some (.int .u32 (r.getD q 0:Nat))∧W.cell? ⟨g8,q,none⟩=some (.int .u32 (f.getD q 0:Nat))):=fun W bb S=>⟨S.ak.uP (by rw [HL.out];exact hlq),S.nV.uP (by rw [BV.out];exact hlq)⟩
      have HAD:=Lib.hid (jV (r.getD q 0) (f.getD q 0))
      generalize r.getD q 0=x at *
      generalize f.getD q 0=y at *
      have RU:=Lib.hid (fun W=>pX (add32 x y) 4 W (by decide))
      have HLW:=Lib.hid (dS 4 (add32 x y))
      have hadd:IntKind.u64.wrap (IntKind.u32.wrap ((x:Int)+y))=(add32 x y:Int):=by
       rw [IntKind.wrap_u32,HAD.out,IntKind.wrap_u64]
       have:=fM x y
       omega
      have Un:IntKind.u64.wrap (((x:Int)+y) % 4294967296)=(add32 x y:Int):=by rw [← IntKind.wrap_u32];exact hadd
      generalize uk r f q=bu at *
      go_wp2_with fail
      refine aM [0,1,2,3,4,5,6,7,8,9] (fun c=>c == 8 || c == 9) (fun c=>false) (T:=fun wx=>wx.cell? ⟨g9,q,none⟩=some (.int .u32 x)∧wx.cell? ⟨g8,q,none⟩=some (.int .u32 y)) (S:=fun wx=>Sp w0 F0 wx (rq 176 g15 bu::ae g9 (aG r) 318::ae g10 dG 320::ae g8 (aG f) 318::L)) (by kernel_rfl) (by kernel_rfl) (by kernel_rfl) HS.out.drew (fun x h=>xq.out x _ h) ?_
      repeat
       refine Exists.intro _ (And.intro rfl (Or.inl (Exists.intro ?_ (And.intro (fun wS hS K hK=>?_) (And.intro ?_ ?_)))))
       rotate_left 1
       ·obtain ⟨t0,t1⟩:=hS
        first
         | (refine ah rfl ?_;simp only [Act.put,List.setIfInBounds_toArray,List.set_cons_zero,List.set_cons_succ];exact hK.out)
         | (refine ag rfl ?_;go_simp;exact hK.out)
       ·rfl
      refine bC.one rfl rfl rfl (fun wS hS R hR=>?_)
      go_simp
      go_at_call 255
      refine (Calls.Zb (RU.out wS) hS).mono ?_
      rintro e w7 ⟨rfl,S7⟩
      refine hR.out _ _ rfl (fun wx=>wx.cell? ⟨g9,q,none⟩=some (.int .u32 x)∧wx.cell? ⟨g8,q,none⟩=some (.int .u32 y)) (fun wx=>Sp w0 F0 wx (rq 176 g15 bu::ae g9 (aG r) 318::ae g10 dG 320::ae g8 (aG f) 318::L)) S7 (fun x h=>xq.out x _ h) (fun _ h=>h) ?_
      clear hR hS S7
      repeat
       refine Exists.intro _ (And.intro rfl (Or.inl (Exists.intro ?_ (And.intro (fun wS hS K hK=>?_) (And.intro ?_ ?_)))))
       rotate_left 1
       ·obtain ⟨t0,t1⟩:=hS
        first
         | (refine ah rfl ?_;simp only [Act.put,List.setIfInBounds_toArray,List.set_cons_zero,List.set_cons_succ];exact hK.out)
         | (refine ag rfl ?_;go_simp;exact hK.out)
       ·rfl
      refine bC.one rfl rfl rfl (fun wS hS R hR=>?_)
      go_simp
      go_at_call 89
      refine (jY (dF (add32 x y) 4) hS (by rw [HLW.out,Cz.out];omega)).mono ?_
      rintro e w7 ⟨rfl,S7⟩
      refine hR.out _ _ rfl (fun wx=>wx.cell? ⟨g9,q,none⟩=some (.int .u32 x)∧wx.cell? ⟨g8,q,none⟩=some (.int .u32 y)) (fun wx=>Sp w0 F0 wx (rq 176 g15 (bu++dF (add32 x y) 4)::ae g9 (aG r) 318::ae g10 dG 320::ae g8 (aG f) 318::L)) S7 (fun x h=>xq.out x _ h) (fun _ h=>h) ?_
      clear hR hS S7
      repeat
       refine Exists.intro _ (And.intro rfl (Or.inl (Exists.intro ?_ (And.intro (fun wS hS K hK=>?_) (And.intro ?_ ?_)))))
       rotate_left 1
       ·obtain ⟨t0,t1⟩:=hS
        first
         | (refine ah rfl ?_;simp only [Act.put,List.setIfInBounds_toArray,List.set_cons_zero,List.set_cons_succ];exact hK.out)
         | (refine ag rfl ?_;go_simp;exact hK.out)
       ·rfl
      intro wE hE
      have aX:=Lib.hid hE
      clear hE
      rw [HE.out] at aX
      go_wp2_with fail
      exact ⟨⟨q+1,by go_num,by omega,aX.out⟩,by simp [intOf];omega⟩
     ·obtain rfl:q=16:=by omega
      have HN:Hid (uk r f 16≠[]):=fun h=>by have:=Cz.out;rw [h] at this;simp at this
      rw [← Zw.out] at HS HN
      go_wp2_with fail
      refine (vU HS.out HN.out).mono ?_
      rintro e w6 ⟨rfl,S⟩
      have NU:=Lib.hid S
      clear S HS
      go_wp2_with fail
      go_ret2
      exact ⟨rfl,(Sp.pick [_,_,_] [] (by decide) (NU.out))⟩
end
end
end Go.Proofs.YtangbdahnmomlaaGreatDoor
