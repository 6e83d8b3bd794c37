/- mac: the key's block, turned. Conditions: the lengths fit. mac: New, Add, Sum, Extract. Conditions: the lengths fit. mac.Sum, Extract, Expand to -/
import Derived.Laws.EntriesVeiled
import Derived.Test.YtangbdahnmomlaaGreatDoorBu23
import Derived.Test.YtangbdahnmomlaaGreatDoorBu27
set_option linter.unnecessarySimpa false
set_option linter.unusedSimpArgs false
set_option linter.unusedVariables false
set_option maxHeartbeats 1000000
set_option maxRecDepth 100000
namespace Go.Proofs.YtangbdahnmomlaaGreatDoor
section
open Go.RowKit
section
variable {w0 w:World} {F0:List Nat} {L:List aT} {b:Nat}
theorem repeatL_one (c:UInt8):∀ n,Lib.repeatL [c] n=List.replicate n c
 | 0=>rfl
 | n+1=>by rw [Lib.repeatL,repeatL_one c n];rfl
theorem PT (c:UInt8) (S:Sp w0 F0 w L):Calls Tryz.prog 212 #[.string ⟨#[c]⟩,.int .i64 64] w fun e w2=>e=.returned (.string ⟨(List.replicate 64 c).toArray⟩)∧Sp w0 F0 w2 L:=by
 refine (Tryz.strings_Repeat ⟨#[c]⟩ 64 w (by omega) (by show 1*64≤_;omega)).mono fun e w2 ⟨he,hb⟩=>⟨?_,S.iq (Ext.of_below hb)⟩
 rw [he,← repeatL_one]
theorem Gw (blk:Bs) (c:UInt8) (hb:blk.length=64) (S:Sp w0 F0 w (ae b #[.string ⟨blk.toArray⟩] 9::L)):Calls Tryz.prog 234 #[.int .u8 c.toNat,.pointer (some ⟨b,0,none⟩)] w fun e w2=>e=.returned (.string ⟨(jU blk (List.replicate 64 c)).toArray⟩)∧Sp w0 F0 w2 (ae b #[.string ⟨blk.toArray⟩] 9::L):=by
 have HS:=Lib.hid S
 have HB:=Lib.hid hb
 have hbl:Hid (blk.length=(List.replicate 64 c).length):=by unfold Hid;rw [hb];rfl
 have hcv:∀ (W:World) (g:Nat),W.cell? ⟨g,0,none⟩=some (.int .u8 (c.toNat:Int))→(convert 79 9 (.slice (some ⟨g,0,none⟩) 1 1)).run Tryz.prog W=.ok (.string ⟨#[c]⟩) W:=fun W g h=>Ae W g c h
 have Xa:=Lib.hid hcv
 clear S hb hcv
 go_enter Tryz.func234,Tryz.ntmps234
 go_upto_region 1 with (fail)
 refine aM [0,1,2,3,4,5,6,7,8,9,10] (fun c=>c == 2 || c == 4 || c == 5) (fun c=>false) (T:=fun wx=>wx.cell? ⟨b,0,none⟩=some (.string ⟨blk.toArray⟩)) (S:=fun wx=>Sp w0 F0 wx (ae b #[.string ⟨blk.toArray⟩] 9::L)) (by kernel_rfl) (by kernel_rfl) (by kernel_rfl) HS.out.drew (fun x h=>h.cell 0) ?_
 repeat
  refine Exists.intro _ (And.intro rfl (Or.inl (Exists.intro ?_ (And.intro (fun wS hS K hK=>?_) (And.intro ?_ ?_)))))
  rotate_left 1
  ·have t0:=hS
   first
    | (refine ah rfl ?_;simp only [Act.put,List.setIfInBounds_toArray,List.set_cons_zero,List.set_cons_succ];exact hK.out)
    | (refine ag rfl ?_;go_simp;exact hK.out)
  ·rfl
 refine bC.one rfl rfl rfl (fun wS hS R hR=>?_)
 go_simp
 obtain ⟨g,hg⟩:∃ g,g=wS.heap.size:=⟨_,rfl⟩
 rw [← hg]
 replace hg:=Lib.hid hg
 refine hR.out _ _ rfl (fun wx=>wx.cell? ⟨b,0,none⟩=some (.string ⟨blk.toArray⟩)∧(convert 79 9 (.slice (some ⟨g,0,none⟩) 1 1)).run Tryz.prog wx=.ok (.string ⟨#[c]⟩) wx) (fun wx=>Sp w0 F0 wx (ae g #[.int .u8 (c.toNat:Int)] 5::ae b #[.string ⟨blk.toArray⟩] 9::L)) (by rw [hg.out];exact hS.box _ _) (fun x h=>⟨h.ak.cell 0,Xa.out x g (h.cell 0)⟩) (fun _ h=>h.1) ?_
 clear hR
 repeat
  refine Exists.intro _ (And.intro rfl (Or.inl (Exists.intro ?_ (And.intro (fun wS hS K hK=>?_) (And.intro ?_ ?_)))))
  rotate_left 1
  ·obtain ⟨t0,t1⟩:=hS
   first
    | (refine ah rfl ?_;simp only [Act.put,List.setIfInBounds_toArray,List.set_cons_zero,List.set_cons_succ];exact hK.out)
    | (refine ag rfl ?_;go_simp;exact hK.out)
  ·rfl
 refine bC.one rfl rfl rfl (fun wS hS R hR=>?_)
 go_simp
 go_at_call 212
 refine (PT c hS).mono ?_
 rintro e w7 ⟨rfl,S7⟩
 refine hR.out _ _ rfl (fun wx=>wx.cell? ⟨b,0,none⟩=some (.string ⟨blk.toArray⟩)∧(convert 79 9 (.slice (some ⟨g,0,none⟩) 1 1)).run Tryz.prog wx=.ok (.string ⟨#[c]⟩) wx) (fun wx=>Sp w0 F0 wx (ae g #[.int .u8 (c.toNat:Int)] 5::ae b #[.string ⟨blk.toArray⟩] 9::L)) S7 (fun x h=>⟨h.ak.cell 0,Xa.out x g (h.cell 0)⟩) (fun _ h=>h) ?_
 clear hR hS S7
 repeat
  refine Exists.intro _ (And.intro rfl (Or.inl (Exists.intro ?_ (And.intro (fun wS hS K hK=>?_) (And.intro ?_ ?_)))))
  rotate_left 1
  ·obtain ⟨t0,t1⟩:=hS
   first
    | (refine ah rfl ?_;simp only [Act.put,List.setIfInBounds_toArray,List.set_cons_zero,List.set_cons_succ];exact hK.out)
    | (refine ag rfl ?_;go_simp;exact hK.out)
  ·rfl
 refine bC.one rfl rfl rfl (fun wS hS R hR=>?_)
 go_simp
 go_at_call 224
 refine (Kw blk (List.replicate 64 c) hbl.out (by rw [HB.out];decide) hS).mono ?_
 rintro e w7 ⟨rfl,S7⟩
 refine hR.out _ _ rfl (fun wx=>wx.cell? ⟨b,0,none⟩=some (.string ⟨blk.toArray⟩)∧(convert 79 9 (.slice (some ⟨g,0,none⟩) 1 1)).run Tryz.prog wx=.ok (.string ⟨#[c]⟩) wx) (fun wx=>Sp w0 F0 wx (ae g #[.int .u8 (c.toNat:Int)] 5::ae b #[.string ⟨blk.toArray⟩] 9::L)) S7 (fun x h=>⟨h.ak.cell 0,Xa.out x g (h.cell 0)⟩) (fun _ h=>h) ?_
 clear hR hS S7
 repeat
  refine Exists.intro _ (And.intro rfl (Or.inl (Exists.intro ?_ (And.intro (fun wS hS K hK=>?_) (And.intro ?_ ?_)))))
  rotate_left 1
  ·obtain ⟨t0,t1⟩:=hS
   first
    | (refine ah rfl ?_;simp only [Act.put,List.setIfInBounds_toArray,List.set_cons_zero,List.set_cons_succ];exact hK.out)
    | (refine ag rfl ?_;go_simp;exact hK.out)
  ·rfl
 intro wE hE
 have aX:=Lib.hid hE
 clear hE
 go_wp2
 go_ret
 exact ⟨rfl,aX.out.drop⟩
end
end
section
open Go.RowKit
section
variable {w0 w:World} {F0:List Nat} {L:List aT}
def VZ (b h:Nat):Array Value:=#[.func (.func 234) #[] #[.pointer (some ⟨b,0,none⟩)],.pointer (some ⟨h,0,none⟩)]
def El (key:Bs):Bs:=key++zeros (64 - key.length)
theorem yS (key:Bs) (hk:key.length≤64):(El key).length=64:=by simp [El,zeros];omega
theorem yT (key:Bs) (c:UInt8):jU (El key) (List.replicate 64 c)=kW key c:=rfl
def yU (m b h:Nat) (key:Bs) (x:Sh) (L:List aT):List aT:=ae m (VZ b h) 298::ae b #[.string ⟨(El key).toArray⟩] 9::EP h x::L
theorem Tp (key:Bs) (h1:1≤key.length) (hk:key.length≤64) (S:Sp w0 F0 w L):Calls Tryz.prog 217 #[.string ⟨key.toArray⟩] w fun e w2=>∃ m b h,e=.returned (.pointer (some ⟨m,0,none⟩))∧Sp w0 F0 w2 (yU m b h key (Sh.new.add (kW key 54)) L):=by
 have HF:=Lib.hid (Gd key 64 h1 hk (by decide) S)
 have hkn:decide (64<(key.length:Int))=false:=by simp;omega
 have Cz:=Lib.hid (yS key hk)
 have Io:=Lib.hid (oK key 54 hk)
 have hbe:(El key).isEmpty=false:=by cases h:El key with | nil=>rw [h] at Cz;exact absurd Cz.out (by decide) | cons=>rfl
 have FQ:=Lib.hid (yT key 54)
 clear S h1 hk
 unfold yU
 change Hid (Calls Tryz.prog 181 _ w fun e w2=>e=.returned (.string ⟨(El key).toArray⟩)∧_) at HF
 generalize kW key 54=tb at *
 generalize El key=blk at *
 go_enter Tryz.func217,Tryz.ntmps217
 go_upto_region 6 with (first | (go_at_call 181;refine HF.out.mono ?_;rintro e w1 ⟨rfl,S⟩;have bX:=Lib.hid (S.box #[.string ⟨blk.toArray⟩] 9);have c1:=bX.out.cell;clear S HF))
 generalize w1.alloc _=w2 at *
 generalize w1.heap.size=b at *
 clear c1
 go_upto_region 8 with (first | (go_at_call 233;refine (PS bX.out).mono ?_;rintro e w3 ⟨h,rfl,S⟩;have bI:=Lib.hid (S.box #[.func (.func 234) #[] #[.pointer (some ⟨b,0,none⟩)],.pointer (some ⟨h,0,none⟩)] 298);clear S))
 generalize w3.alloc _=w4 at *
 generalize w3.heap.size=m at *
 refine aM [0,1,2,3,4,5,6,7,8,9] (fun c=>c == 8 || c == 9) (fun c=>false) (T:=fun wx=>wx.cell? ⟨m,0,none⟩=some (.func (.func 234) #[] #[.pointer (some ⟨b,0,none⟩)])∧wx.cell? ⟨m,1,none⟩=some (.pointer (some ⟨h,0,none⟩))) (S:=fun wx=>Sp w0 F0 wx (ae m #[.func (.func 234) #[] #[.pointer (some ⟨b,0,none⟩)],.pointer (some ⟨h,0,none⟩)] 298::EP h Sh.new::ae b #[.string ⟨blk.toArray⟩] 9::L)) (by kernel_rfl) (by kernel_rfl) (by kernel_rfl) bI.out.drew (fun x hx=>⟨hx.cell 0,hx.cell 1⟩) ?_
 repeat
  refine Exists.intro _ (And.intro rfl (Or.inl (Exists.intro ?_ (And.intro (fun wS hS K hK=>?_) (And.intro ?_ ?_)))))
  rotate_left 1
  ·obtain ⟨t0,t1⟩:=hS
   first
    | (refine ah rfl ?_;simp only [Act.put,List.setIfInBounds_toArray,List.set_cons_zero,List.set_cons_succ];exact hK.out)
    | (refine ag rfl ?_;go_simp;exact hK.out)
  ·rfl
 refine bC.one rfl rfl rfl (fun wS hS R hR=>?_)
 go_simp
 go_at_call 234
 refine (Gw blk 54 Cz.out hS.dJ).mono ?_
 rw [FQ.out]
 rintro e w7 ⟨rfl,S7⟩
 refine hR.out _ _ rfl (fun wx=>wx.cell? ⟨m,0,none⟩=some (.func (.func 234) #[] #[.pointer (some ⟨b,0,none⟩)])∧wx.cell? ⟨m,1,none⟩=some (.pointer (some ⟨h,0,none⟩))) (fun wx=>Sp w0 F0 wx (ae b #[.string ⟨blk.toArray⟩] 9::ae m #[.func (.func 234) #[] #[.pointer (some ⟨b,0,none⟩)],.pointer (some ⟨h,0,none⟩)] 298::EP h Sh.new::L)) S7 (fun x hx=>⟨hx.ak.cell 0,hx.ak.cell 1⟩) (fun _ h=>h) ?_
 clear hR hS S7
 repeat
  refine Exists.intro _ (And.intro rfl (Or.inl (Exists.intro ?_ (And.intro (fun wS hS K hK=>?_) (And.intro ?_ ?_)))))
  rotate_left 1
  ·obtain ⟨t0,t1⟩:=hS
   first
    | (refine ah rfl ?_;simp only [Act.put,List.setIfInBounds_toArray,List.set_cons_zero,List.set_cons_succ];exact hK.out)
    | (refine ag rfl ?_;go_simp;exact hK.out)
  ·rfl
 refine bC.one rfl rfl rfl (fun wS hS R hR=>?_)
 go_simp
 go_at_call 235
 refine (Jz Sh.new tb Sh.D9 (by decide) (by rw [Io.out];decide) hS.dJ).mono ?_
 rintro e w7 ⟨rfl,S7⟩
 refine hR.out _ _ rfl (fun wx=>wx.cell? ⟨m,0,none⟩=some (.func (.func 234) #[] #[.pointer (some ⟨b,0,none⟩)])∧wx.cell? ⟨m,1,none⟩=some (.pointer (some ⟨h,0,none⟩))) (fun wx=>Sp w0 F0 wx (EP h (Sh.new.add tb)::ae b #[.string ⟨blk.toArray⟩] 9::ae m #[.func (.func 234) #[] #[.pointer (some ⟨b,0,none⟩)],.pointer (some ⟨h,0,none⟩)] 298::L)) S7 (fun x hx=>⟨hx.dJ.cell 0,hx.dJ.cell 1⟩) (fun _ h=>h) ?_
 clear hR hS S7
 repeat
  refine Exists.intro _ (And.intro rfl (Or.inl (Exists.intro ?_ (And.intro (fun wS hS K hK=>?_) (And.intro ?_ ?_)))))
  rotate_left 1
  ·obtain ⟨t0,t1⟩:=hS
   first
    | (refine ah rfl ?_;simp only [Act.put,List.setIfInBounds_toArray,List.set_cons_zero,List.set_cons_succ];exact hK.out)
    | (refine ag rfl ?_;go_simp;exact hK.out)
  ·rfl
 intro wE hE
 have aX:=Lib.hid hE
 clear hE
 go_wp2
 go_ret
 have HZ:=(Sp.pick [_,_,_] [2,1,0] (by decide) (aX.out))
 exact ⟨m,b,h,rfl,HZ⟩
theorem Tq {m b h:Nat} {key:Bs} (x:Sh) (t:Bs) (hx:x.ok) (hn:x.n≤100000000) (ht:t.length≤900000) (S:Sp w0 F0 w (yU m b h key x L)):Calls Tryz.prog 218 #[.pointer (some ⟨m,0,none⟩),.string ⟨t.toArray⟩] w fun e w2=>e=.returned (.tuple #[])∧Sp w0 F0 w2 (yU m b h key (x.add t) L):=by
 unfold yU VZ at *
 have c:=S.cell
 have HA:=Lib.hid (Jz x t hx hn ht S.dJ)
 clear S hx hn ht
 go_enter Tryz.func218,Tryz.ntmps218
 go_wp2_with fail
 refine HA.out.mono ?_
 rintro e w1 ⟨rfl,S⟩
 have HS:=Lib.hid S
 clear S HA c
 go_wp2_with fail
 go_end0
 have HZ:=(Sp.pick [_,_,_] [1,2,0] (by decide) (HS.out))
 exact ⟨rfl,HZ⟩
theorem PU {m b h:Nat} {key:Bs} (x:Sh) (hk:key.length≤64) (hx:x.ok) (hn:x.n≤100000000) (S:Sp w0 F0 w (yU m b h key x L)):Calls Tryz.prog 219 #[.pointer (some ⟨m,0,none⟩)] w fun e w2=>e=.returned (.string ⟨(O1 (kW key 92++x.sum)).toArray⟩)∧Sp w0 F0 w2 (yU m b h key x L):=by
 unfold yU VZ at *
 have FQ:=Lib.hid (yT key 92)
 have Cz:=Lib.hid (yS key hk)
 have Io:=Lib.hid (oK key 92 hk)
 have MU:Hid (x.sum.length=32):=S8.AQ _
 have HX:=Lib.hid hx
 have HN:=Lib.hid hn
 have hj:=dZ (kW key 92) x.sum (by rw [Io.out,MU.out];decide)
 have HS:=Lib.hid S
 clear S hx hn hk
 generalize kW key 92=tb at *
 generalize El key=blk at *
 have HHS:=Lib.hid (fun (w':World) (K:List aT) (S':Sp w0 F0 w' (EP h x::K))=>KW x HX.out HN.out S')
 generalize x.sum=sm at *
 go_enter Tryz.func219,Tryz.ntmps219
 go_upto_region 1 with (fail)
 refine aM [0,1,2,3,5,6,7,8,4,9,10,11,12] (fun c=>c == 4 || c == 9 || c == 11) (fun c=>false) (T:=fun wx=>wx.cell? ⟨m,0,none⟩=some (.func (.func 234) #[] #[.pointer (some ⟨b,0,none⟩)])∧wx.cell? ⟨m,1,none⟩=some (.pointer (some ⟨h,0,none⟩))) (S:=fun wx=>Sp w0 F0 wx (ae m #[.func (.func 234) #[] #[.pointer (some ⟨b,0,none⟩)],.pointer (some ⟨h,0,none⟩)] 298::ae b #[.string ⟨blk.toArray⟩] 9::EP h x::L)) (by kernel_rfl) (by kernel_rfl) (by kernel_rfl) HS.out.drew (fun x hx=>⟨hx.cell 0,hx.cell 1⟩) ?_
 repeat
  refine Exists.intro _ (And.intro rfl (Or.inl (Exists.intro ?_ (And.intro (fun wS hS K hK=>?_) (And.intro ?_ ?_)))))
  rotate_left 1
  ·obtain ⟨t0,t1⟩:=hS
   first
    | (refine ah rfl ?_;simp only [Act.put,List.setIfInBounds_toArray,List.set_cons_zero,List.set_cons_succ];exact hK.out)
    | (refine ag rfl ?_;go_simp;exact hK.out)
  ·rfl
 refine bC.one rfl rfl rfl (fun wS hS R hR=>?_)
 go_simp
 go_at_call 234
 refine (Gw blk 92 Cz.out hS.ak).mono ?_
 rw [FQ.out]
 rintro e w7 ⟨rfl,S7⟩
 refine hR.out _ _ rfl (fun wx=>wx.cell? ⟨m,0,none⟩=some (.func (.func 234) #[] #[.pointer (some ⟨b,0,none⟩)])∧wx.cell? ⟨m,1,none⟩=some (.pointer (some ⟨h,0,none⟩))) (fun wx=>Sp w0 F0 wx (ae b #[.string ⟨blk.toArray⟩] 9::ae m #[.func (.func 234) #[] #[.pointer (some ⟨b,0,none⟩)],.pointer (some ⟨h,0,none⟩)] 298::EP h x::L)) S7 (fun x hx=>⟨hx.ak.cell 0,hx.ak.cell 1⟩) (fun _ h=>h) ?_
 clear hR hS S7
 repeat
  refine Exists.intro _ (And.intro rfl (Or.inl (Exists.intro ?_ (And.intro (fun wS hS K hK=>?_) (And.intro ?_ ?_)))))
  rotate_left 1
  ·obtain ⟨t0,t1⟩:=hS
   first
    | (refine ah rfl ?_;simp only [Act.put,List.setIfInBounds_toArray,List.set_cons_zero,List.set_cons_succ];exact hK.out)
    | (refine ag rfl ?_;go_simp;exact hK.out)
  ·rfl
 refine bC.one rfl rfl rfl (fun wS hS R hR=>?_)
 go_simp
 go_at_call 236
 refine (HHS.out _ _ hS.dJ).mono ?_
 rintro e w7 ⟨rfl,S7⟩
 refine hR.out _ _ rfl (fun wx=>wx.cell? ⟨m,0,none⟩=some (.func (.func 234) #[] #[.pointer (some ⟨b,0,none⟩)])∧wx.cell? ⟨m,1,none⟩=some (.pointer (some ⟨h,0,none⟩))) (fun wx=>Sp w0 F0 wx (EP h x::ae b #[.string ⟨blk.toArray⟩] 9::ae m #[.func (.func 234) #[] #[.pointer (some ⟨b,0,none⟩)],.pointer (some ⟨h,0,none⟩)] 298::L)) S7 (fun x hx=>⟨hx.dJ.cell 0,hx.dJ.cell 1⟩) (fun _ h=>h) ?_
 clear hR hS S7
 repeat
  refine Exists.intro _ (And.intro rfl (Or.inl (Exists.intro ?_ (And.intro (fun wS hS K hK=>?_) (And.intro ?_ ?_)))))
  rotate_left 1
  ·obtain ⟨t0,t1⟩:=hS
   first
    | (refine ah rfl ?_;simp only [Act.put,List.setIfInBounds_toArray,List.set_cons_zero,List.set_cons_succ];exact hK.out)
    | (refine ag rfl ?_;go_simp;exact hK.out)
  ·rfl
 refine bC.one rfl rfl rfl (fun wS hS R hR=>?_)
 go_simp
 go_at_call 232
 refine (VY (tb++sm) (by rw [List.length_append,Io.out,MU.out];decide) hS).mono ?_
 rintro e w7 ⟨rfl,S7⟩
 refine hR.out _ _ rfl (fun wx=>wx.cell? ⟨m,0,none⟩=some (.func (.func 234) #[] #[.pointer (some ⟨b,0,none⟩)])∧wx.cell? ⟨m,1,none⟩=some (.pointer (some ⟨h,0,none⟩))) (fun wx=>Sp w0 F0 wx (EP h x::ae b #[.string ⟨blk.toArray⟩] 9::ae m #[.func (.func 234) #[] #[.pointer (some ⟨b,0,none⟩)],.pointer (some ⟨h,0,none⟩)] 298::L)) S7 (fun x hx=>⟨hx.dJ.cell 0,hx.dJ.cell 1⟩) (fun _ h=>h) ?_
 clear hR hS S7
 repeat
  refine Exists.intro _ (And.intro rfl (Or.inl (Exists.intro ?_ (And.intro (fun wS hS K hK=>?_) (And.intro ?_ ?_)))))
  rotate_left 1
  ·obtain ⟨t0,t1⟩:=hS
   first
    | (refine ah rfl ?_;simp only [Act.put,List.setIfInBounds_toArray,List.set_cons_zero,List.set_cons_succ];exact hK.out)
    | (refine ag rfl ?_;go_simp;exact hK.out)
  ·rfl
 intro wE hE
 have aX:=Lib.hid hE
 clear hE
 go_wp2
 go_ret
 have HZ:=(Sp.pick [_,_,_] [2,1,0] (by decide) (aX.out))
 exact ⟨rfl,HZ⟩
end
end
section
open Go.RowKit
section
variable {w0 w:World} {F0:List Nat} {L:List aT}
theorem KX (key t:Bs) (h1:1≤key.length) (hk:key.length≤64) (ht:t.length≤900000) (S:Sp w0 F0 w L):Calls Tryz.prog 193 #[.string ⟨key.toArray⟩,.string ⟨t.toArray⟩] w fun e w2=>e=.returned (.string ⟨(xI key t).toArray⟩)∧Sp w0 F0 w2 L:=by
 have HN:=Lib.hid (Tp key h1 hk S)
 have HK:=Lib.hid hk
 have HT:=Lib.hid ht
 have HO:=Lib.hid (Sh.Jc Sh.D9 (kW key 54))
 have HN1:Hid ((Sh.new.add (kW key 54)).n≤1000):=by unfold Hid;rw [Sh.O3,oK key 54 hk];decide
 unfold xI
 clear S h1 hk ht
 generalize Sh.new.add (kW key 54)=x at *
 have ZC:=Lib.hid (Sh.Jc HO.out t)
 have Vz:Hid ((x.add t).n≤100000000):=by unfold Hid;rw [Sh.O3];have:=HN1.out;have:=HT.out;omega
 go_enter Tryz.func193,Tryz.ntmps193
 go_wp2_with fail
 refine HN.out.mono ?_
 rintro e w1 ⟨m,b,h,rfl,S⟩
 have bX:=Lib.hid S
 clear S HN
 go_wp2_with fail
 refine (Tq x t HO.out (by have:=HN1.out;omega) HT.out bX.out).mono ?_
 rintro e w2 ⟨rfl,S⟩
 have HS2:=Lib.hid S
 clear S bX
 go_wp2_with fail
 refine (PU (x.add t) HK.out ZC.out Vz.out HS2.out).mono ?_
 rintro e w3 ⟨rfl,S⟩
 have bI:=Lib.hid S
 clear S HS2
 go_wp2_with fail
 go_ret
 exact ⟨rfl,bI.out.drop.drop.drop⟩
theorem Gx (key t:Bs) (h1:1≤key.length) (hk:key.length≤64) (ht:t.length≤900000) (S:Sp w0 F0 w L):Calls Tryz.prog 151 #[.string ⟨key.toArray⟩,.string ⟨t.toArray⟩] w fun e w2=>e=.returned (.string ⟨(xI key t).toArray⟩)∧Sp w0 F0 w2 L:=by
 have HM:=Lib.hid (KX key t h1 hk ht S)
 clear S h1 hk ht
 go_enter Tryz.func151,Tryz.ntmps151
 go_wp2_with fail
 refine HM.out.mono ?_
 rintro e w1 ⟨rfl,S⟩
 have HS:=Lib.hid S
 clear S HM
 go_wp2_with fail
 go_ret
 exact ⟨rfl,HS.out⟩
theorem JA (key info:Bs) (h1:1≤key.length) (hk:key.length≤64) (ht:info.length≤100000) (S:Sp w0 F0 w L):Calls Tryz.prog 150 #[.string ⟨key.toArray⟩,.string ⟨info.toArray⟩,.int .i64 32] w fun e w2=>e=.returned (.tuple #[.string ⟨((xI key (info++[1])).take 32).toArray⟩,.int .i64 0])∧Sp w0 F0 w2 L:=by
 have HB0:=Lib.hid (S.vT 176)
 have HM:=Lib.hid (fun (w':World) (K:List aT) (S':Sp w0 F0 w' K)=>KX key (info++[1]) h1 hk (by rw [List.length_append];show info.length+1≤_;omega) S')
 have Io:=Lib.hid (rV key (info++[1]))
 have hj:=dZ info [1] (by simp [maxLen];omega)
 have hj0:=dZ [] info (by simp [maxLen];omega)
 clear S h1 hk ht
 generalize xI key (info++[1])=mc at *
 go_enter Tryz.func150,Tryz.ntmps150
 go_upto_region 6 with (fail)
 generalize w.alloc _=w1 at *
 generalize w.heap.size=g at *
 have hcv:∀ (W:World) (q:Nat),W.cell? ⟨q,0,none⟩=some (.int .u8 1)→(convert 79 9 (.slice (some ⟨q,0,none⟩) 1 1)).run Tryz.prog W=.ok (.string ⟨#[1]⟩) W:=fun W q h=>Ae W q 1 h
 go_loopw [9,10] (fun v9 v10 wr=>(v9=.string ⟨#[]⟩∧v10=.int .i64 1∧Sp w0 F0 wr (rq 176 g []::L))∨(v9=.string ⟨mc.toArray⟩∧v10=.int .i64 2∧Sp w0 F0 wr (rq 176 g mc::L))) (fun _ v10 _=>3 - (intOf v10).toNat)
 case atStart=>exact .inl ⟨rfl,rfl,HB0.out⟩
 case round =>
  clear HB0
  rcases hrel with ⟨rfl,rfl,S⟩ | ⟨rfl,rfl,S⟩
  ·have HS:=Lib.hid S
   clear S
   go_wp2_with fail
   refine (Vh HS.out).mono ?_
   rintro e w2 ⟨rfl,S⟩
   have HS2:=Lib.hid S
   clear S HS
   go_wp2_with fail
   refine (HM.out _ _ (HS2.out.box #[.int .u8 1] 5).drop).mono ?_
   rintro e w3 ⟨rfl,S⟩
   have bI:=Lib.hid S
   clear S HS2
   go_wp2_with fail
   refine (jY mc bI.out (by rw [Io.out];decide)).mono ?_
   rintro e w4 ⟨rfl,S⟩
   have gP:=Lib.hid S
   clear S bI
   go_wp2_with fail
   go_roundw
   case rel=>exact .inr ⟨rfl,rfl,gP.out⟩
   case measure=>decide
  ·have HS:=Lib.hid S
   have HN:Hid (mc≠[]):=fun h=>by have:=Io.out;rw [h] at this;simp at this
   have hlI:(mc.length:Int)=32:=by rw [Io.out];rfl
   have hcut:=iT mc 32
   clear S
   go_wp2_with fail
   refine (Vh HS.out).mono ?_
   rintro e w2 ⟨rfl,S⟩
   have HS2:=Lib.hid S
   clear S HS
   go_wp2_with fail
   refine (vU HS2.out HN.out).mono ?_
   rintro e w3 ⟨rfl,S⟩
   have bI:=Lib.hid S
   clear S HS2
   go_wp2_with fail
   go_ret2
   exact ⟨rfl,bI.out⟩
theorem JB (JC secret info:Bs) (h1:1≤JC.length) (hk:JC.length≤64) (hs:secret.length≤900000) (ht:info.length≤100000) (S:Sp w0 F0 w L):Calls Tryz.prog 112 #[.string ⟨JC.toArray⟩,.string ⟨secret.toArray⟩,.string ⟨info.toArray⟩,.int .i64 32] w fun e w2=>e=.returned (.tuple #[.string ⟨((xI (xI JC secret) (info++[1])).take 32).toArray⟩,.int .i64 0])∧Sp w0 F0 w2 L:=by
 have HX:=Lib.hid (Gx JC secret h1 hk hs S)
 have HL:=Lib.hid (rV JC secret)
 have HT:=Lib.hid ht
 clear S h1 hk ht hs
 generalize xI JC secret=pk at *
 go_enter Tryz.func112,Tryz.ntmps112
 go_wp2_with fail
 refine HX.out.mono ?_
 rintro e w1 ⟨rfl,S⟩
 have HS:=Lib.hid S
 clear S HX
 go_wp2_with fail
 refine (JA pk info (by rw [HL.out];decide) (by rw [HL.out];decide) HT.out HS.out).mono ?_
 rintro e w2 ⟨rfl,S⟩
 have HS2:=Lib.hid S
 clear S HS
 go_wp2_with fail
 go_ret2
 exact ⟨rfl,HS2.out⟩
end
end
section
open Go.RowKit
section
variable {w0 w:World} {F0:List Nat} {L:List aT}
theorem KY (ai d:Bs) (n:Nat) (hm:ai.length=32) (hd:d.length≤255) (S:Sp w0 F0 w L):Calls Tryz.prog 75 #[.string ⟨ai.toArray⟩,.string ⟨d.toArray⟩,.int .u64 n] w fun e w2=>e=.returned (.tuple #[.string ⟨(nR ai d n).toArray⟩,.int .i64 0])∧Sp w0 F0 w2 L:=by
 have hmI:(ai.length:Int)=32:=by omega
 have hdI:(d.length:Int)≤255:=by omega
 have HH1:=Lib.hid (fun W=>nA d.length 2 W (by decide))
 have HH2:=Lib.hid (fun W=>nA n 8 W (by decide))
 have HI:Hid (D8 d n=dx d.length 2++d++dx n 8):=rfl
 have Kr:=Lib.hid (dE 2 d.length)
 have HL2:=Lib.hid (dE 8 n)
 have HD:=Lib.hid (fun (w':World) (K:List aT) (S':Sp w0 F0 w' K)=>JB KI ai (D8 d n) (by decide) (by decide) (by rw [hm];decide) (by rw [HI.out];simp only [List.length_append];rw [Kr.out,HL2.out];omega) S')
 unfold nR
 have hj1:=dZ (dx d.length 2) d (by rw [Kr.out];simp only [maxLen];omega)
 have hj2:=dZ (dx d.length 2++d) (dx n 8) (by rw [List.length_append,Kr.out,HL2.out];simp only [maxLen];omega)
 have HS:=Lib.hid S
 clear S hm hd
 rw [HI.out] at HD ⊢
 generalize dx d.length 2=q1 at *
 generalize dx n 8=q2 at *
 generalize List.take 32 (xI (xI KI ai) (q1++d++q2++[1]))=kk at *
 unfold KI at HD
 go_enter Tryz.func75,Tryz.ntmps75
 go_wp2_with fail
 refine (HH1.out _).mono ?_
 rintro e w1 ⟨rfl,hx⟩
 have bX:=Lib.hid (HS.out.iq hx)
 clear hx HH1 HS
 go_wp2_with fail
 refine (HH2.out _).mono ?_
 rintro e w2 ⟨rfl,hx⟩
 have HS2:=Lib.hid (bX.out.iq hx)
 clear hx HH2 bX
 go_wp2_with fail
 rw [List.append_assoc] at HD
 refine (HD.out _ _ HS2.out).mono ?_
 rintro e w3 ⟨rfl,S⟩
 have bI:=Lib.hid S
 clear S HS2 HD
 go_wp2_with fail
 go_ret2
 exact ⟨rfl,bI.out⟩
end
end
end Go.Proofs.YtangbdahnmomlaaGreatDoor
