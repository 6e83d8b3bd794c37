/- mac: the key's block, turned. Conditions: the lengths fit. mac: New, Add, Sum, Extract. Conditions: the lengths fit. mac.Sum, Extract, Expand to 32 bytes, Derive. Conditions: the lengths fit. box.Key. Conditions: the lengths fit. -/
import Derived.Laws.EntriesVeiled
import Derived.Test.YtangbdahnmomlaaGreatDoorBu15
import Derived.Test.YtangbdahnmomlaaGreatDoorBu25
set_option linter.unnecessarySimpa false
set_option linter.unusedSimpArgs false
set_option linter.unusedVariables false
set_option maxHeartbeats 1000000
set_option maxRecDepth 100000
namespace Go.Proofs.YtangbdahnmomlaaGreatDoor
section
open Go.RowKit
section
variable {w0 w : World} {F0 : List Nat} {L : List Res} {b : Nat}
theorem repeatL_one (c : UInt8) : ∀ n,Lib.repeatL [c] n = List.replicate n c
  | 0 => rfl
  | n + 1 => by rw [Lib.repeatL,repeatL_one c n]; rfl
theorem repeat64 (c : UInt8) (S : Sp w0 F0 w L) : Calls Tryz.prog 212 #[.string ⟨#[c]⟩,.int .i64 64] w fun e w2 => e = .returned (.string ⟨(List.replicate 64 c).toArray⟩) ∧ Sp w0 F0 w2 L:=by
  refine (Tryz.strings_Repeat ⟨#[c]⟩ 64 w (by omega) (by show 1 * 64 ≤ _; omega)).mono fun e w2 ⟨he,hb⟩ => ⟨?_,S.ext0 (Ext.of_below hb)⟩
  rw [he,← repeatL_one]
theorem macTurnS (blk : Bs) (c : UInt8) (hb : blk.length = 64) (S : Sp w0 F0 w (boxR b #[.string ⟨blk.toArray⟩] 9 :: L)) : Calls Tryz.prog 234 #[.int .u8 c.toNat,.pointer (some ⟨b,0,none⟩)] w fun e w2 => e = .returned (.string ⟨(xorB blk (List.replicate 64 c)).toArray⟩) ∧ Sp w0 F0 w2 (boxR b #[.string ⟨blk.toArray⟩] 9 :: L):=by
  have HS:=Lib.hid S
  have HB:=Lib.hid hb
  have hbl : Hid (blk.length = (List.replicate 64 c).length):=by unfold Hid; rw [hb]; rfl
  have hcv : ∀ (W : World) (g : Nat),W.cell? ⟨g,0,none⟩ = some (.int .u8 (c.toNat : Int)) → (convert 79 9 (.slice (some ⟨g,0,none⟩) 1 1)).run Tryz.prog W = .ok (.string ⟨#[c]⟩) W:=fun W g h => conv_one W g c h
  have HCV:=Lib.hid hcv
  clear S hb hcv
  go_enter Tryz.func234,Tryz.ntmps234
  go_upto_region 1 with (fail)
  refine wp_region_chainG [0,1,2,3,4,5,6,7,8,9,10] (fun c => c == 2 || c == 4 || c == 5) (fun c => false) (T:=fun wx => wx.cell? ⟨b,0,none⟩ = some (.string ⟨blk.toArray⟩)) (S:=fun wx => Sp w0 F0 wx (boxR b #[.string ⟨blk.toArray⟩] 9 :: L)) (by kernel_rfl) (by kernel_rfl) (by kernel_rfl) HS.out.drew (fun x h => h.cell 0) ?_
  repeat
    refine Exists.intro _ (And.intro rfl (Or.inl (Exists.intro ?_ (And.intro (fun wS hS K hK => ?_) (And.intro ?_ ?_)))))
    rotate_left 1
    · have t0:=hS
      first
        | (refine if_unwanted rfl ?_; simp only [Act.put,List.setIfInBounds_toArray,List.set_cons_zero,List.set_cons_succ]; exact hK.out)
        | (refine if_wanted rfl ?_; go_simp; exact hK.out)
    · rfl
  refine ChainG.one rfl rfl rfl (fun wS hS R hR => ?_)
  go_simp
  obtain ⟨g,hg⟩ : ∃ g,g = wS.heap.size:=⟨_,rfl⟩
  rw [← hg]
  replace hg:=Lib.hid hg
  refine hR.out _ _ rfl (fun wx => wx.cell? ⟨b,0,none⟩ = some (.string ⟨blk.toArray⟩) ∧ (convert 79 9 (.slice (some ⟨g,0,none⟩) 1 1)).run Tryz.prog wx = .ok (.string ⟨#[c]⟩) wx) (fun wx => Sp w0 F0 wx (boxR g #[.int .u8 (c.toNat : Int)] 5 :: boxR b #[.string ⟨blk.toArray⟩] 9 :: L)) (by rw [hg.out]; exact hS.box _ _) (fun x h => ⟨h.pull1.cell 0,HCV.out x g (h.cell 0)⟩) (fun _ h => h.1) ?_
  clear hR
  repeat
    refine Exists.intro _ (And.intro rfl (Or.inl (Exists.intro ?_ (And.intro (fun wS hS K hK => ?_) (And.intro ?_ ?_)))))
    rotate_left 1
    · obtain ⟨t0,t1⟩:=hS
      first
        | (refine if_unwanted rfl ?_; simp only [Act.put,List.setIfInBounds_toArray,List.set_cons_zero,List.set_cons_succ]; exact hK.out)
        | (refine if_wanted rfl ?_; go_simp; exact hK.out)
    · rfl
  refine ChainG.one rfl rfl rfl (fun wS hS R hR => ?_)
  go_simp
  go_at_call 212
  refine (repeat64 c hS).mono ?_
  rintro e w7 ⟨rfl,S7⟩
  refine hR.out _ _ rfl (fun wx => wx.cell? ⟨b,0,none⟩ = some (.string ⟨blk.toArray⟩) ∧ (convert 79 9 (.slice (some ⟨g,0,none⟩) 1 1)).run Tryz.prog wx = .ok (.string ⟨#[c]⟩) wx) (fun wx => Sp w0 F0 wx (boxR g #[.int .u8 (c.toNat : Int)] 5 :: boxR b #[.string ⟨blk.toArray⟩] 9 :: L)) S7 (fun x h => ⟨h.pull1.cell 0,HCV.out x g (h.cell 0)⟩) (fun _ h => h) ?_
  clear hR hS S7
  repeat
    refine Exists.intro _ (And.intro rfl (Or.inl (Exists.intro ?_ (And.intro (fun wS hS K hK => ?_) (And.intro ?_ ?_)))))
    rotate_left 1
    · obtain ⟨t0,t1⟩:=hS
      first
        | (refine if_unwanted rfl ?_; simp only [Act.put,List.setIfInBounds_toArray,List.set_cons_zero,List.set_cons_succ]; exact hK.out)
        | (refine if_wanted rfl ?_; go_simp; exact hK.out)
    · rfl
  refine ChainG.one rfl rfl rfl (fun wS hS R hR => ?_)
  go_simp
  go_at_call 224
  refine (octXorS blk (List.replicate 64 c) hbl.out (by rw [HB.out]; decide) hS).mono ?_
  rintro e w7 ⟨rfl,S7⟩
  refine hR.out _ _ rfl (fun wx => wx.cell? ⟨b,0,none⟩ = some (.string ⟨blk.toArray⟩) ∧ (convert 79 9 (.slice (some ⟨g,0,none⟩) 1 1)).run Tryz.prog wx = .ok (.string ⟨#[c]⟩) wx) (fun wx => Sp w0 F0 wx (boxR g #[.int .u8 (c.toNat : Int)] 5 :: boxR b #[.string ⟨blk.toArray⟩] 9 :: L)) S7 (fun x h => ⟨h.pull1.cell 0,HCV.out x g (h.cell 0)⟩) (fun _ h => h) ?_
  clear hR hS S7
  repeat
    refine Exists.intro _ (And.intro rfl (Or.inl (Exists.intro ?_ (And.intro (fun wS hS K hK => ?_) (And.intro ?_ ?_)))))
    rotate_left 1
    · obtain ⟨t0,t1⟩:=hS
      first
        | (refine if_unwanted rfl ?_; simp only [Act.put,List.setIfInBounds_toArray,List.set_cons_zero,List.set_cons_succ]; exact hK.out)
        | (refine if_wanted rfl ?_; go_simp; exact hK.out)
    · rfl
  intro wE hE
  have HSE:=Lib.hid hE
  clear hE
  go_wp2
  go_ret
  exact ⟨rfl,HSE.out.drop⟩
end
end
section
open Go.RowKit
section
variable {w0 w : World} {F0 : List Nat} {L : List Res}
def macC (b h : Nat) : Array Value:=#[.func (.func 234) #[] #[.pointer (some ⟨b,0,none⟩)],.pointer (some ⟨h,0,none⟩)]
def macK (key : Bs) : Bs:=key ++ zeros (64 - key.length)
theorem macK_length (key : Bs) (hk : key.length ≤ 64) : (macK key).length = 64:=by simp [macK,zeros]; omega
theorem macK_turned (key : Bs) (c : UInt8) : xorB (macK key) (List.replicate 64 c) = macBlk key c:=rfl
def macPs (m b h : Nat) (key : Bs) (x : Sh) (L : List Res) : List Res:=boxR m (macC b h) 298 :: boxR b #[.string ⟨(macK key).toArray⟩] 9 :: shR h x :: L
theorem macNewS (key : Bs) (h1 : 1 ≤ key.length) (hk : key.length ≤ 64) (S : Sp w0 F0 w L) : Calls Tryz.prog 217 #[.string ⟨key.toArray⟩] w fun e w2 => ∃ m b h,e = .returned (.pointer (some ⟨m,0,none⟩)) ∧ Sp w0 F0 w2 (macPs m b h key (Sh.new.add (macBlk key 54)) L):=by
  have HF:=Lib.hid (octFillS key 64 h1 hk (by decide) S)
  have hkn : decide (64 < (key.length : Int)) = false:=by simp; omega
  have HBL:=Lib.hid (macK_length key hk)
  have HML:=Lib.hid (macBlk_length key 54 hk)
  have hbe : (macK key).isEmpty = false:=by cases h : macK key with | nil => rw [h] at HBL; exact absurd HBL.out (by decide) | cons => rfl
  have HTK:=Lib.hid (macK_turned key 54)
  clear S h1 hk
  unfold macPs
  change Hid (Calls Tryz.prog 181 _ w fun e w2 => e = .returned (.string ⟨(macK key).toArray⟩) ∧ _) at HF
  generalize macBlk key 54 = tb at *
  generalize macK key = blk at *
  go_enter Tryz.func217,Tryz.ntmps217
  go_upto_region 6 with (first | (go_at_call 181; refine HF.out.mono ?_; rintro e w1 ⟨rfl,S⟩; have HS1:=Lib.hid (S.box #[.string ⟨blk.toArray⟩] 9); have c1:=HS1.out.cell; clear S HF))
  generalize w1.alloc _ = w2 at *
  generalize w1.heap.size = b at *
  clear c1
  go_upto_region 8 with (first | (go_at_call 233; refine (shNewS HS1.out).mono ?_; rintro e w3 ⟨h,rfl,S⟩; have HS3:=Lib.hid (S.box #[.func (.func 234) #[] #[.pointer (some ⟨b,0,none⟩)],.pointer (some ⟨h,0,none⟩)] 298); clear S))
  generalize w3.alloc _ = w4 at *
  generalize w3.heap.size = m at *
  refine wp_region_chainG [0,1,2,3,4,5,6,7,8,9] (fun c => c == 8 || c == 9) (fun c => false) (T:=fun wx => wx.cell? ⟨m,0,none⟩ = some (.func (.func 234) #[] #[.pointer (some ⟨b,0,none⟩)]) ∧ wx.cell? ⟨m,1,none⟩ = some (.pointer (some ⟨h,0,none⟩))) (S:=fun wx => Sp w0 F0 wx (boxR m #[.func (.func 234) #[] #[.pointer (some ⟨b,0,none⟩)],.pointer (some ⟨h,0,none⟩)] 298 :: shR h Sh.new :: boxR b #[.string ⟨blk.toArray⟩] 9 :: L)) (by kernel_rfl) (by kernel_rfl) (by kernel_rfl) HS3.out.drew (fun x hx => ⟨hx.cell 0,hx.cell 1⟩) ?_
  repeat
    refine Exists.intro _ (And.intro rfl (Or.inl (Exists.intro ?_ (And.intro (fun wS hS K hK => ?_) (And.intro ?_ ?_)))))
    rotate_left 1
    · obtain ⟨t0,t1⟩:=hS
      first
        | (refine if_unwanted rfl ?_; simp only [Act.put,List.setIfInBounds_toArray,List.set_cons_zero,List.set_cons_succ]; exact hK.out)
        | (refine if_wanted rfl ?_; go_simp; exact hK.out)
    · rfl
  refine ChainG.one rfl rfl rfl (fun wS hS R hR => ?_)
  go_simp
  go_at_call 234
  refine (macTurnS blk 54 HBL.out hS.pull2).mono ?_
  rw [HTK.out]
  rintro e w7 ⟨rfl,S7⟩
  refine hR.out _ _ rfl (fun wx => wx.cell? ⟨m,0,none⟩ = some (.func (.func 234) #[] #[.pointer (some ⟨b,0,none⟩)]) ∧ wx.cell? ⟨m,1,none⟩ = some (.pointer (some ⟨h,0,none⟩))) (fun wx => Sp w0 F0 wx (boxR b #[.string ⟨blk.toArray⟩] 9 :: boxR m #[.func (.func 234) #[] #[.pointer (some ⟨b,0,none⟩)],.pointer (some ⟨h,0,none⟩)] 298 :: shR h Sh.new :: L)) S7 (fun x hx => ⟨hx.pull1.cell 0,hx.pull1.cell 1⟩) (fun _ h => h) ?_
  clear hR hS S7
  repeat
    refine Exists.intro _ (And.intro rfl (Or.inl (Exists.intro ?_ (And.intro (fun wS hS K hK => ?_) (And.intro ?_ ?_)))))
    rotate_left 1
    · obtain ⟨t0,t1⟩:=hS
      first
        | (refine if_unwanted rfl ?_; simp only [Act.put,List.setIfInBounds_toArray,List.set_cons_zero,List.set_cons_succ]; exact hK.out)
        | (refine if_wanted rfl ?_; go_simp; exact hK.out)
    · rfl
  refine ChainG.one rfl rfl rfl (fun wS hS R hR => ?_)
  go_simp
  go_at_call 235
  refine (shAddS Sh.new tb Sh.new_ok (by decide) (by rw [HML.out]; decide) hS.pull2).mono ?_
  rintro e w7 ⟨rfl,S7⟩
  refine hR.out _ _ rfl (fun wx => wx.cell? ⟨m,0,none⟩ = some (.func (.func 234) #[] #[.pointer (some ⟨b,0,none⟩)]) ∧ wx.cell? ⟨m,1,none⟩ = some (.pointer (some ⟨h,0,none⟩))) (fun wx => Sp w0 F0 wx (shR h (Sh.new.add tb) :: boxR b #[.string ⟨blk.toArray⟩] 9 :: boxR m #[.func (.func 234) #[] #[.pointer (some ⟨b,0,none⟩)],.pointer (some ⟨h,0,none⟩)] 298 :: L)) S7 (fun x hx => ⟨hx.pull2.cell 0,hx.pull2.cell 1⟩) (fun _ h => h) ?_
  clear hR hS S7
  repeat
    refine Exists.intro _ (And.intro rfl (Or.inl (Exists.intro ?_ (And.intro (fun wS hS K hK => ?_) (And.intro ?_ ?_)))))
    rotate_left 1
    · obtain ⟨t0,t1⟩:=hS
      first
        | (refine if_unwanted rfl ?_; simp only [Act.put,List.setIfInBounds_toArray,List.set_cons_zero,List.set_cons_succ]; exact hK.out)
        | (refine if_wanted rfl ?_; go_simp; exact hK.out)
    · rfl
  intro wE hE
  have HSE:=Lib.hid hE
  clear hE
  go_wp2
  go_ret
  have HZ:=(Sp.pick [_,_,_] [2,1,0] (by decide) (HSE.out))
  exact ⟨m,b,h,rfl,HZ⟩
theorem macAddS {m b h : Nat} {key : Bs} (x : Sh) (t : Bs) (hx : x.ok) (hn : x.n ≤ 100000000) (ht : t.length ≤ 900000) (S : Sp w0 F0 w (macPs m b h key x L)) : Calls Tryz.prog 218 #[.pointer (some ⟨m,0,none⟩),.string ⟨t.toArray⟩] w fun e w2 => e = .returned (.tuple #[]) ∧ Sp w0 F0 w2 (macPs m b h key (x.add t) L):=by
  unfold macPs macC at *
  have c:=S.cell
  have HA:=Lib.hid (shAddS x t hx hn ht S.pull2)
  clear S hx hn ht
  go_enter Tryz.func218,Tryz.ntmps218
  go_wp2_with fail
  refine HA.out.mono ?_
  rintro e w1 ⟨rfl,S⟩
  have HS:=Lib.hid S
  clear S HA c
  go_wp2_with fail
  go_end0
  have HZ:=(Sp.pick [_,_,_] [1,2,0] (by decide) (HS.out))
  exact ⟨rfl,HZ⟩
theorem macHSumS {m b h : Nat} {key : Bs} (x : Sh) (hk : key.length ≤ 64) (hx : x.ok) (hn : x.n ≤ 100000000) (S : Sp w0 F0 w (macPs m b h key x L)) : Calls Tryz.prog 219 #[.pointer (some ⟨m,0,none⟩)] w fun e w2 => e = .returned (.string ⟨(shaB (macBlk key 92 ++ x.sum)).toArray⟩) ∧ Sp w0 F0 w2 (macPs m b h key x L):=by
  unfold macPs macC at *
  have HTK:=Lib.hid (macK_turned key 92)
  have HBL:=Lib.hid (macK_length key hk)
  have HML:=Lib.hid (macBlk_length key 92 hk)
  have HSL : Hid (x.sum.length = 32):=S8.out_length _
  have HX:=Lib.hid hx
  have HN:=Lib.hid hn
  have hj:=add_str (macBlk key 92) x.sum (by rw [HML.out,HSL.out]; decide)
  have HS:=Lib.hid S
  clear S hx hn hk
  generalize macBlk key 92 = tb at *
  generalize macK key = blk at *
  have HHS:=Lib.hid (fun (w' : World) (K : List Res) (S' : Sp w0 F0 w' (shR h x :: K)) => shHSumS x HX.out HN.out S')
  generalize x.sum = sm at *
  go_enter Tryz.func219,Tryz.ntmps219
  go_upto_region 1 with (fail)
  refine wp_region_chainG [0,1,2,3,5,6,7,8,4,9,10,11,12] (fun c => c == 4 || c == 9 || c == 11) (fun c => false) (T:=fun wx => wx.cell? ⟨m,0,none⟩ = some (.func (.func 234) #[] #[.pointer (some ⟨b,0,none⟩)]) ∧ wx.cell? ⟨m,1,none⟩ = some (.pointer (some ⟨h,0,none⟩))) (S:=fun wx => Sp w0 F0 wx (boxR m #[.func (.func 234) #[] #[.pointer (some ⟨b,0,none⟩)],.pointer (some ⟨h,0,none⟩)] 298 :: boxR b #[.string ⟨blk.toArray⟩] 9 :: shR h x :: L)) (by kernel_rfl) (by kernel_rfl) (by kernel_rfl) HS.out.drew (fun x hx => ⟨hx.cell 0,hx.cell 1⟩) ?_
  repeat
    refine Exists.intro _ (And.intro rfl (Or.inl (Exists.intro ?_ (And.intro (fun wS hS K hK => ?_) (And.intro ?_ ?_)))))
    rotate_left 1
    · obtain ⟨t0,t1⟩:=hS
      first
        | (refine if_unwanted rfl ?_; simp only [Act.put,List.setIfInBounds_toArray,List.set_cons_zero,List.set_cons_succ]; exact hK.out)
        | (refine if_wanted rfl ?_; go_simp; exact hK.out)
    · rfl
  refine ChainG.one rfl rfl rfl (fun wS hS R hR => ?_)
  go_simp
  go_at_call 234
  refine (macTurnS blk 92 HBL.out hS.pull1).mono ?_
  rw [HTK.out]
  rintro e w7 ⟨rfl,S7⟩
  refine hR.out _ _ rfl (fun wx => wx.cell? ⟨m,0,none⟩ = some (.func (.func 234) #[] #[.pointer (some ⟨b,0,none⟩)]) ∧ wx.cell? ⟨m,1,none⟩ = some (.pointer (some ⟨h,0,none⟩))) (fun wx => Sp w0 F0 wx (boxR b #[.string ⟨blk.toArray⟩] 9 :: boxR m #[.func (.func 234) #[] #[.pointer (some ⟨b,0,none⟩)],.pointer (some ⟨h,0,none⟩)] 298 :: shR h x :: L)) S7 (fun x hx => ⟨hx.pull1.cell 0,hx.pull1.cell 1⟩) (fun _ h => h) ?_
  clear hR hS S7
  repeat
    refine Exists.intro _ (And.intro rfl (Or.inl (Exists.intro ?_ (And.intro (fun wS hS K hK => ?_) (And.intro ?_ ?_)))))
    rotate_left 1
    · obtain ⟨t0,t1⟩:=hS
      first
        | (refine if_unwanted rfl ?_; simp only [Act.put,List.setIfInBounds_toArray,List.set_cons_zero,List.set_cons_succ]; exact hK.out)
        | (refine if_wanted rfl ?_; go_simp; exact hK.out)
    · rfl
  refine ChainG.one rfl rfl rfl (fun wS hS R hR => ?_)
  go_simp
  go_at_call 236
  refine (HHS.out _ _ hS.pull2).mono ?_
  rintro e w7 ⟨rfl,S7⟩
  refine hR.out _ _ rfl (fun wx => wx.cell? ⟨m,0,none⟩ = some (.func (.func 234) #[] #[.pointer (some ⟨b,0,none⟩)]) ∧ wx.cell? ⟨m,1,none⟩ = some (.pointer (some ⟨h,0,none⟩))) (fun wx => Sp w0 F0 wx (shR h x :: boxR b #[.string ⟨blk.toArray⟩] 9 :: boxR m #[.func (.func 234) #[] #[.pointer (some ⟨b,0,none⟩)],.pointer (some ⟨h,0,none⟩)] 298 :: L)) S7 (fun x hx => ⟨hx.pull2.cell 0,hx.pull2.cell 1⟩) (fun _ h => h) ?_
  clear hR hS S7
  repeat
    refine Exists.intro _ (And.intro rfl (Or.inl (Exists.intro ?_ (And.intro (fun wS hS K hK => ?_) (And.intro ?_ ?_)))))
    rotate_left 1
    · obtain ⟨t0,t1⟩:=hS
      first
        | (refine if_unwanted rfl ?_; simp only [Act.put,List.setIfInBounds_toArray,List.set_cons_zero,List.set_cons_succ]; exact hK.out)
        | (refine if_wanted rfl ?_; go_simp; exact hK.out)
    · rfl
  refine ChainG.one rfl rfl rfl (fun wS hS R hR => ?_)
  go_simp
  go_at_call 232
  refine (shSumS (tb ++ sm) (by rw [List.length_append,HML.out,HSL.out]; decide) hS).mono ?_
  rintro e w7 ⟨rfl,S7⟩
  refine hR.out _ _ rfl (fun wx => wx.cell? ⟨m,0,none⟩ = some (.func (.func 234) #[] #[.pointer (some ⟨b,0,none⟩)]) ∧ wx.cell? ⟨m,1,none⟩ = some (.pointer (some ⟨h,0,none⟩))) (fun wx => Sp w0 F0 wx (shR h x :: boxR b #[.string ⟨blk.toArray⟩] 9 :: boxR m #[.func (.func 234) #[] #[.pointer (some ⟨b,0,none⟩)],.pointer (some ⟨h,0,none⟩)] 298 :: L)) S7 (fun x hx => ⟨hx.pull2.cell 0,hx.pull2.cell 1⟩) (fun _ h => h) ?_
  clear hR hS S7
  repeat
    refine Exists.intro _ (And.intro rfl (Or.inl (Exists.intro ?_ (And.intro (fun wS hS K hK => ?_) (And.intro ?_ ?_)))))
    rotate_left 1
    · obtain ⟨t0,t1⟩:=hS
      first
        | (refine if_unwanted rfl ?_; simp only [Act.put,List.setIfInBounds_toArray,List.set_cons_zero,List.set_cons_succ]; exact hK.out)
        | (refine if_wanted rfl ?_; go_simp; exact hK.out)
    · rfl
  intro wE hE
  have HSE:=Lib.hid hE
  clear hE
  go_wp2
  go_ret
  have HZ:=(Sp.pick [_,_,_] [2,1,0] (by decide) (HSE.out))
  exact ⟨rfl,HZ⟩
end
end
section
open Go.RowKit
section
variable {w0 w : World} {F0 : List Nat} {L : List Res}
theorem macSumS (key t : Bs) (h1 : 1 ≤ key.length) (hk : key.length ≤ 64) (ht : t.length ≤ 900000) (S : Sp w0 F0 w L) : Calls Tryz.prog 193 #[.string ⟨key.toArray⟩,.string ⟨t.toArray⟩] w fun e w2 => e = .returned (.string ⟨(macB key t).toArray⟩) ∧ Sp w0 F0 w2 L:=by
  have HN:=Lib.hid (macNewS key h1 hk S)
  have HK:=Lib.hid hk
  have HT:=Lib.hid ht
  have HO:=Lib.hid (Sh.add_ok Sh.new_ok (macBlk key 54))
  have HN1 : Hid ((Sh.new.add (macBlk key 54)).n ≤ 1000):=by unfold Hid; rw [Sh.add_n,macBlk_length key 54 hk]; decide
  unfold macB
  clear S h1 hk ht
  generalize Sh.new.add (macBlk key 54) = x at *
  have HO2:=Lib.hid (Sh.add_ok HO.out t)
  have HN2 : Hid ((x.add t).n ≤ 100000000):=by unfold Hid; rw [Sh.add_n]; have:=HN1.out; have:=HT.out; omega
  go_enter Tryz.func193,Tryz.ntmps193
  go_wp2_with fail
  refine HN.out.mono ?_
  rintro e w1 ⟨m,b,h,rfl,S⟩
  have HS1:=Lib.hid S
  clear S HN
  go_wp2_with fail
  refine (macAddS x t HO.out (by have:=HN1.out; omega) HT.out HS1.out).mono ?_
  rintro e w2 ⟨rfl,S⟩
  have HS2:=Lib.hid S
  clear S HS1
  go_wp2_with fail
  refine (macHSumS (x.add t) HK.out HO2.out HN2.out HS2.out).mono ?_
  rintro e w3 ⟨rfl,S⟩
  have HS3:=Lib.hid S
  clear S HS2
  go_wp2_with fail
  go_ret
  exact ⟨rfl,HS3.out.drop.drop.drop⟩
theorem macExtractS (key t : Bs) (h1 : 1 ≤ key.length) (hk : key.length ≤ 64) (ht : t.length ≤ 900000) (S : Sp w0 F0 w L) : Calls Tryz.prog 151 #[.string ⟨key.toArray⟩,.string ⟨t.toArray⟩] w fun e w2 => e = .returned (.string ⟨(macB key t).toArray⟩) ∧ Sp w0 F0 w2 L:=by
  have HM:=Lib.hid (macSumS key t h1 hk ht S)
  clear S h1 hk ht
  go_enter Tryz.func151,Tryz.ntmps151
  go_wp2_with fail
  refine HM.out.mono ?_
  rintro e w1 ⟨rfl,S⟩
  have HS:=Lib.hid S
  clear S HM
  go_wp2_with fail
  go_ret
  exact ⟨rfl,HS.out⟩
theorem macExpandS (key info : Bs) (h1 : 1 ≤ key.length) (hk : key.length ≤ 64) (ht : info.length ≤ 100000) (S : Sp w0 F0 w L) : Calls Tryz.prog 150 #[.string ⟨key.toArray⟩,.string ⟨info.toArray⟩,.int .i64 32] w fun e w2 => e = .returned (.tuple #[.string ⟨((macB key (info ++ [1])).take 32).toArray⟩,.int .i64 0]) ∧ Sp w0 F0 w2 L:=by
  have HB0:=Lib.hid (S.bldNewX 176)
  have HM:=Lib.hid (fun (w' : World) (K : List Res) (S' : Sp w0 F0 w' K) => macSumS key (info ++ [1]) h1 hk (by rw [List.length_append]; show info.length + 1 ≤ _; omega) S')
  have HML:=Lib.hid (macB_length key (info ++ [1]))
  have hj:=add_str info [1] (by simp [maxLen]; omega)
  have hj0:=add_str [] info (by simp [maxLen]; omega)
  clear S h1 hk ht
  generalize macB key (info ++ [1]) = mc at *
  go_enter Tryz.func150,Tryz.ntmps150
  go_upto_region 6 with (fail)
  generalize w.alloc _ = w1 at *
  generalize w.heap.size = g at *
  have hcv : ∀ (W : World) (q : Nat),W.cell? ⟨q,0,none⟩ = some (.int .u8 1) → (convert 79 9 (.slice (some ⟨q,0,none⟩) 1 1)).run Tryz.prog W = .ok (.string ⟨#[1]⟩) W:=fun W q h => conv_one W q 1 h
  go_loopw [9,10] (fun v9 v10 wr => (v9 = .string ⟨#[]⟩ ∧ v10 = .int .i64 1 ∧ Sp w0 F0 wr (bldX 176 g [] :: L)) ∨ (v9 = .string ⟨mc.toArray⟩ ∧ v10 = .int .i64 2 ∧ Sp w0 F0 wr (bldX 176 g mc :: L))) (fun _ v10 _ => 3 - (intOf v10).toNat)
  case atStart => exact .inl ⟨rfl,rfl,HB0.out⟩
  case round =>
    clear HB0
    rcases hrel with ⟨rfl,rfl,S⟩ | ⟨rfl,rfl,S⟩
    · have HS:=Lib.hid S
      clear S
      go_wp2_with fail
      refine (lenX HS.out).mono ?_
      rintro e w2 ⟨rfl,S⟩
      have HS2:=Lib.hid S
      clear S HS
      go_wp2_with fail
      refine (HM.out _ _ (HS2.out.box #[.int .u8 1] 5).drop).mono ?_
      rintro e w3 ⟨rfl,S⟩
      have HS3:=Lib.hid S
      clear S HS2
      go_wp2_with fail
      refine (writeStrX mc HS3.out (by rw [HML.out]; decide)).mono ?_
      rintro e w4 ⟨rfl,S⟩
      have HS4:=Lib.hid S
      clear S HS3
      go_wp2_with fail
      go_roundw
      case rel => exact .inr ⟨rfl,rfl,HS4.out⟩
      case measure => decide
    · have HS:=Lib.hid S
      have HN : Hid (mc ≠ []):=fun h => by have:=HML.out; rw [h] at this; simp at this
      have hlI : (mc.length : Int) = 32:=by rw [HML.out]; rfl
      have hcut:=cut_head mc 32
      clear S
      go_wp2_with fail
      refine (lenX HS.out).mono ?_
      rintro e w2 ⟨rfl,S⟩
      have HS2:=Lib.hid S
      clear S HS
      go_wp2_with fail
      refine (stringX HS2.out HN.out).mono ?_
      rintro e w3 ⟨rfl,S⟩
      have HS3:=Lib.hid S
      clear S HS2
      go_wp2_with fail
      go_ret2
      exact ⟨rfl,HS3.out⟩
theorem macDeriveS (salt secret info : Bs) (h1 : 1 ≤ salt.length) (hk : salt.length ≤ 64) (hs : secret.length ≤ 900000) (ht : info.length ≤ 100000) (S : Sp w0 F0 w L) : Calls Tryz.prog 112 #[.string ⟨salt.toArray⟩,.string ⟨secret.toArray⟩,.string ⟨info.toArray⟩,.int .i64 32] w fun e w2 => e = .returned (.tuple #[.string ⟨((macB (macB salt secret) (info ++ [1])).take 32).toArray⟩,.int .i64 0]) ∧ Sp w0 F0 w2 L:=by
  have HX:=Lib.hid (macExtractS salt secret h1 hk hs S)
  have HL:=Lib.hid (macB_length salt secret)
  have HT:=Lib.hid ht
  clear S h1 hk ht hs
  generalize macB salt secret = pk at *
  go_enter Tryz.func112,Tryz.ntmps112
  go_wp2_with fail
  refine HX.out.mono ?_
  rintro e w1 ⟨rfl,S⟩
  have HS:=Lib.hid S
  clear S HX
  go_wp2_with fail
  refine (macExpandS pk info (by rw [HL.out]; decide) (by rw [HL.out]; decide) HT.out HS.out).mono ?_
  rintro e w2 ⟨rfl,S⟩
  have HS2:=Lib.hid S
  clear S HS
  go_wp2_with fail
  go_ret2
  exact ⟨rfl,HS2.out⟩
end
end
section
open Go.RowKit
section
variable {w0 w : World} {F0 : List Nat} {L : List Res}
theorem boxKeyS (master d : Bs) (n : Nat) (hm : master.length = 32) (hd : d.length ≤ 255) (S : Sp w0 F0 w L) : Calls Tryz.prog 75 #[.string ⟨master.toArray⟩,.string ⟨d.toArray⟩,.int .u64 n] w fun e w2 => e = .returned (.tuple #[.string ⟨(keyB master d n).toArray⟩,.int .i64 0]) ∧ Sp w0 F0 w2 L:=by
  have hmI : (master.length : Int) = 32:=by omega
  have hdI : (d.length : Int) ≤ 255:=by omega
  have HH1:=Lib.hid (fun W => high_any d.length 2 W (by decide))
  have HH2:=Lib.hid (fun W => high_any n 8 W (by decide))
  have HI : Hid (keyInfo d n = highB d.length 2 ++ d ++ highB n 8):=rfl
  have HL1:=Lib.hid (highB_length 2 d.length)
  have HL2:=Lib.hid (highB_length 8 n)
  have HD:=Lib.hid (fun (w' : World) (K : List Res) (S' : Sp w0 F0 w' K) => macDeriveS saltB master (keyInfo d n) (by decide) (by decide) (by rw [hm]; decide) (by rw [HI.out]; simp only [List.length_append]; rw [HL1.out,HL2.out]; omega) S')
  unfold keyB
  have hj1:=add_str (highB d.length 2) d (by rw [HL1.out]; simp only [maxLen]; omega)
  have hj2:=add_str (highB d.length 2 ++ d) (highB n 8) (by rw [List.length_append,HL1.out,HL2.out]; simp only [maxLen]; omega)
  have HS:=Lib.hid S
  clear S hm hd
  rw [HI.out] at HD ⊢
  generalize highB d.length 2 = q1 at *
  generalize highB n 8 = q2 at *
  generalize List.take 32 (macB (macB saltB master) (q1 ++ d ++ q2 ++ [1])) = kk at *
  unfold saltB at HD
  go_enter Tryz.func75,Tryz.ntmps75
  go_wp2_with fail
  refine (HH1.out _).mono ?_
  rintro e w1 ⟨rfl,hx⟩
  have HS1:=Lib.hid (HS.out.ext0 hx)
  clear hx HH1 HS
  go_wp2_with fail
  refine (HH2.out _).mono ?_
  rintro e w2 ⟨rfl,hx⟩
  have HS2:=Lib.hid (HS1.out.ext0 hx)
  clear hx HH2 HS1
  go_wp2_with fail
  rw [List.append_assoc] at HD
  refine (HD.out _ _ HS2.out).mono ?_
  rintro e w3 ⟨rfl,S⟩
  have HS3:=Lib.hid S
  clear S HS2 HD
  go_wp2_with fail
  go_ret2
  exact ⟨rfl,HS3.out⟩
end
end
end Go.Proofs.YtangbdahnmomlaaGreatDoor
