/- slices.Sort of numbers of the kind uint64: partition. Conditions: the lengths fit. -/
import Derived.Test.YtangbdahnmomlaaGreatDoorBu33
set_option linter.unnecessarySimpa false
set_option linter.unusedSimpArgs false
set_option linter.unusedVariables false
set_option maxHeartbeats 4000000
set_option maxRecDepth 100000
namespace Go.Proofs.YtangbdahnmomlaaGreatDoor
section
open Go.RowKit Go.Sort
section
variable {w0 w : World} {F0 : List Nat} {L : List Res} {g T cap : Nat} {d : Array Nat} {J : Array Value}
theorem part_eq {a b q p : Nat} {D : Array Nat} (h : (swp D a q)[a]! = p) :
    partition ltN D a b q = if scanUp (fun x => ltN x p) (swp D a q) (b - 1) (a + 1) > scanDown (fun x => !ltN x p) (swp D a q) (scanUp (fun x => ltN x p) (swp D a q) (b - 1) (a + 1)) (b - 1) then
        (scanDown (fun x => !ltN x p) (swp D a q) (scanUp (fun x => ltN x p) (swp D a q) (b - 1) (a + 1)) (b - 1),true,swp (swp D a q) (scanDown (fun x => !ltN x p) (swp D a q) (scanUp (fun x => ltN x p) (swp D a q) (b - 1) (a + 1)) (b - 1)) a)
      else
        ((partLoop ltN a (scanUp (fun x => ltN x p) (swp D a q) (b - 1) (a + 1) + 1) (scanDown (fun x => !ltN x p) (swp D a q) (scanUp (fun x => ltN x p) (swp D a q) (b - 1) (a + 1)) (b - 1) - 1) (swp (swp D a q) (scanUp (fun x => ltN x p) (swp D a q) (b - 1) (a + 1)) (scanDown (fun x => !ltN x p) (swp D a q) (scanUp (fun x => ltN x p) (swp D a q) (b - 1) (a + 1)) (b - 1)))).1,false,
         swp (partLoop ltN a (scanUp (fun x => ltN x p) (swp D a q) (b - 1) (a + 1) + 1) (scanDown (fun x => !ltN x p) (swp D a q) (scanUp (fun x => ltN x p) (swp D a q) (b - 1) (a + 1)) (b - 1) - 1) (swp (swp D a q) (scanUp (fun x => ltN x p) (swp D a q) (b - 1) (a + 1)) (scanDown (fun x => !ltN x p) (swp D a q) (scanUp (fun x => ltN x p) (swp D a q) (b - 1) (a + 1)) (b - 1)))).2
           (partLoop ltN a (scanUp (fun x => ltN x p) (swp D a q) (b - 1) (a + 1) + 1) (scanDown (fun x => !ltN x p) (swp D a q) (scanUp (fun x => ltN x p) (swp D a q) (b - 1) (a + 1)) (b - 1) - 1) (swp (swp D a q) (scanUp (fun x => ltN x p) (swp D a q) (b - 1) (a + 1)) (scanDown (fun x => !ltN x p) (swp D a q) (scanUp (fun x => ltN x p) (swp D a q) (b - 1) (a + 1)) (b - 1)))).1 a):=by
  unfold partition
  simp only [h]
theorem partU (a b q : Nat) (haq : a ≤ q) (hqb : q < b) (hb : b ≤ d.size) (hn : d.size ≤ 1000000) (S : Sp w0 F0 w (srR g T d J :: L)) :
    Calls Tryz.prog 191 #[svU g d.size cap,.int .i64 a,.int .i64 b,.int .i64 q] w fun e w2 => e = .returned (.tuple #[.int .i64 (partition ltN d a b q).1,.bool (partition ltN d a b q).2.1]) ∧ Sp w0 F0 w2 (srR g T (partition ltN d a b q).2.2 J :: L):=by
  have HS:=Lib.hid S
  obtain ⟨p,hp⟩ : ∃ p,(swp d a q)[a]! = p:=⟨_,rfl⟩
  have HI:=Lib.hid (part_eq (b:=b) hp)
  generalize partition ltN d a b q = R at *
  have hn' : (d.size : Int) ≤ 1000000:=by omega
  obtain ⟨n,hnn⟩ : ∃ n,d.size = n:=⟨_,rfl⟩
  rw [hnn] at hn' hb hn ⊢
  have hb' : (b : Int) ≤ n:=by omega
  have haq' : (a : Int) ≤ q:=by omega
  have hqb' : (q : Int) < b:=by omega
  have HD:=Lib.hid hnn
  clear S hnn
  obtain ⟨x,hx⟩ : ∃ x,d[a]! = x:=⟨_,rfl⟩
  have HCx : Hid (a < d.size ∧ d[a]! = x):=⟨by rw [HD.out]; omega,hx⟩
  have hnx : (a : Int) < n:=by omega
  have cx:=HS.out.atUX HCx.out
  clear hx
  obtain ⟨y,hy⟩ : ∃ y,d[q]! = y:=⟨_,rfl⟩
  have HCy : Hid (q < d.size ∧ d[q]! = y):=⟨by rw [HD.out]; omega,hy⟩
  have hny : (q : Int) < n:=by omega
  have cy:=HS.out.atUX HCy.out
  clear hy
  have cx:=HS.out.atUX HCx.out
  have cy:=HS.out.atUX HCy.out
  have fx:=HS.out.free a
  have fy:=HS.out.free q
  have gy:=HS.out.swpMid (i:=a) (j:=q) (y:=y) HCx.out.1 HCy.out.1
  have HP:=Lib.hid (HS.out.swpU (i:=a) (j:=q) HCx.out.1 HCy.out.1 HCx.out.2 HCy.out.2)
  have HE : Hid ((swp d a q).size = n):=by unfold Hid; rw [swp_size]; exact HD.out
  generalize swp d a q = d1 at *
  have HCp0 : Hid (a < d1.size ∧ d1[a]! = p):=⟨by rw [HE.out]; omega,hp⟩
  clear HS hp
  obtain ⟨bb,hbb⟩ : ∃ bb : Nat,b - 1 = bb:=⟨_,rfl⟩
  rw [hbb] at HI
  have hbI : (b : Int) - 1 = bb:=by omega
  have hwb:=wrapN bb (by omega)
  obtain ⟨aa,haa⟩ : ∃ aa : Nat,a + 1 = aa:=⟨_,rfl⟩
  rw [haa] at HI
  have haI : (a : Int) + 1 = aa:=by omega
  have hwa:=wrapN aa (by omega)
  have hu:=up_in (p:=(fun x => ltN x p)) (D:=d1) (j:=bb) _ aa (Nat.le_refl _)
  obtain ⟨i1,hi1⟩ : ∃ i1,scanUp (fun x => ltN x p) d1 bb aa = i1:=⟨_,rfl⟩
  rw [hi1] at HI hu
  have hv:=dn_in (p:=(fun x => !ltN x p)) (D:=d1) (i:=i1) (by omega) bb
  obtain ⟨j1,hj1⟩ : ∃ j1,scanDown (fun x => !ltN x p) d1 i1 bb = j1:=⟨_,rfl⟩
  rw [hj1] at HI hv
  have HU:=Lib.hid hi1
  have HV:=Lib.hid hj1
  clear hi1 hj1
  go_enter Tryz.func191,Tryz.ntmps191
  go_upto_region 1 with (fail)
  go_region
  all_goals
    clear cx cy fx fy gy HCx HCy HD
    have HD:=HE
    have HCp:=HCp0
    clear HE HCp0
    have hna : (a : Int) < n:=by omega
    have hbb' : (bb : Int) < n:=by omega
    have hab' : (aa : Int) ≤ bb + 1:=by omega
    have hda : a < aa:=by omega
    go_upto_block 0 with (fail)
    go_cut [10] (fun vk wx => vk = .int .i64 i1 ∧ Sp w0 F0 wx (srR g T d1 J :: L))
    case first =>
      go_wp2_with fail
      go_loopw [10] (fun vk wq => ∃ k : Nat,vk = .int .i64 k ∧ aa ≤ k ∧ k ≤ bb + 2 ∧ scanUp (fun x => ltN x p) d1 bb k = i1 ∧ Sp w0 F0 wq (srR g T d1 J :: L)) (fun vk _ => bb + 3 - (intOf vk).toNat)
      case atStart => exact ⟨aa,rfl,by omega,by omega,HU.out,HP.out⟩
      case round =>
        obtain ⟨k,rfl,hk1,hk2,hU,S⟩:=hrel
        have HSR:=Lib.hid S
        have HUK:=Lib.hid hU
        clear S hU
        by_cases hc : k ≤ bb
        · have hc1 : (k : Int) ≤ bb:=by omega
          obtain ⟨x,hx⟩ : ∃ x,d1[k]! = x:=⟨_,rfl⟩
          have HCx : Hid (k < d1.size ∧ d1[k]! = x):=⟨by rw [HD.out]; omega,hx⟩
          have hnx : (k : Int) < n:=by omega
          have cx:=HSR.out.atUX HCx.out
          clear hx
          have cp:=HSR.out.atUX HCp.out
          by_cases hxy : x < p
          · have hd:=decide_eq_true hxy
            have HO : Hid (scanUp (fun x => ltN x p) d1 bb (k + 1) = i1):=(up_go (i:=k) (by omega) (by rw [HCx.out.2]; simpa [ltN] using hxy)).symm.trans HUK.out
            go_wp2_with fail
            refine wp_region_text (S:=fun wx => Sp w0 F0 wx (srR g T d1 J :: L) ∧ (wx.cell? ⟨g,k,none⟩ = some (.int .u64 x)) ∧ (wx.cell? ⟨g,a,none⟩ = some (.int .u64 p))) (by kernel_rfl) (by kernel_rfl) ⟨(HSR.out).drew,cx,cp⟩ ?_
            repeat
              refine Exists.intro ?_ (And.intro (fun wS hS K hK => ?_) (And.intro ?_ ?_))
              rotate_left 1
              · obtain ⟨hS1,hS2,hS3⟩:=hS
                first
                  | (refine if_unwanted rfl ?_; simp only [Act.put,List.setIfInBounds_toArray,List.set_cons_zero,List.set_cons_succ]; exact hK.out _ ⟨hS1,hS2,hS3⟩)
                  | (refine if_wanted rfl ?_; go_simp; exact hK.out _ ⟨hS1,hS2,hS3⟩)
                  | (refine if_wanted rfl ?_; go_simp; go_at_call 189; refine (lessUS x p hS1).mono ?_; rw [hd]; rintro e w12 ⟨rfl,S12⟩; exact hK.out _ ⟨S12,S12.atUX HCx.out,S12.atUX HCp.out⟩)
              · rfl
            intro wE hE
            have HSE:=Lib.hid hE.1
            clear hE
            clear cx cp hd HSR
            go_wp2_with fail
            go_roundw
            case rel => exact ⟨k + 1,by go_num,by omega,by omega,HO.out,HSE.out⟩
            case measure => (simp [intOf]; try omega)
          · have hd:=decide_eq_false hxy
            have HO : Hid (k = i1):=(up_stop (i:=k) (fun h => by have h2:=h.2; rw [HCx.out.2] at h2; simp [ltN] at h2; omega)).symm.trans HUK.out
            go_wp2_with fail
            refine wp_region_text (S:=fun wx => Sp w0 F0 wx (srR g T d1 J :: L) ∧ (wx.cell? ⟨g,k,none⟩ = some (.int .u64 x)) ∧ (wx.cell? ⟨g,a,none⟩ = some (.int .u64 p))) (by kernel_rfl) (by kernel_rfl) ⟨(HSR.out).drew,cx,cp⟩ ?_
            repeat
              refine Exists.intro ?_ (And.intro (fun wS hS K hK => ?_) (And.intro ?_ ?_))
              rotate_left 1
              · obtain ⟨hS1,hS2,hS3⟩:=hS
                first
                  | (refine if_unwanted rfl ?_; simp only [Act.put,List.setIfInBounds_toArray,List.set_cons_zero,List.set_cons_succ]; exact hK.out _ ⟨hS1,hS2,hS3⟩)
                  | (refine if_wanted rfl ?_; go_simp; exact hK.out _ ⟨hS1,hS2,hS3⟩)
                  | (refine if_wanted rfl ?_; go_simp; go_at_call 189; refine (lessUS x p hS1).mono ?_; rw [hd]; rintro e w12 ⟨rfl,S12⟩; exact hK.out _ ⟨S12,S12.atUX HCx.out,S12.atUX HCp.out⟩)
              · rfl
            intro wE hE
            have HSE:=Lib.hid hE.1
            clear hE
            clear cx cp hd HSR
            go_wp2_with fail
            go_meet
            exact ⟨by rw [HO.out],HSE.out⟩
        · have hc1 : ¬ (k : Int) ≤ bb:=by omega
          have HO : Hid (k = i1):=(up_stop (i:=k) (fun h => hc h.1)).symm.trans HUK.out
          go_wp2_with fail
          refine wp_region_text (S:=fun wx => Sp w0 F0 wx (srR g T d1 J :: L)) (by kernel_rfl) (by kernel_rfl) (HSR.out).drew ?_
          repeat
            refine Exists.intro ?_ (And.intro (fun wS hS K hK => ?_) (And.intro ?_ ?_))
            rotate_left 1
            · have hS1:=hS
              first
                | (refine if_unwanted rfl ?_; simp only [Act.put,List.setIfInBounds_toArray,List.set_cons_zero,List.set_cons_succ]; exact hK.out _ hS1)
                | (refine if_wanted rfl ?_; go_simp; exact hK.out _ hS1)
            · rfl
          intro wE hE
          have HSE:=Lib.hid hE
          clear hE
          go_wp2_with fail
          go_meet
          exact ⟨by rw [HO.out],HSE.out⟩
    case rest =>
      obtain ⟨rfl,S⟩:=hcut
      have HS2:=Lib.hid S
      clear S HP HU
      have HU:=HV
      clear HV
      go_upto_block 2 with (fail)
      go_cut [11] (fun vk wx => vk = .int .i64 j1 ∧ Sp w0 F0 wx (srR g T d1 J :: L))
      case first =>
        go_wp2_with fail
        go_loopw [11] (fun vk wq => ∃ k : Nat,vk = .int .i64 k ∧ k ≤ bb ∧ i1 ≤ k + 2 ∧ scanDown (fun x => !ltN x p) d1 i1 k = j1 ∧ Sp w0 F0 wq (srR g T d1 J :: L)) (fun vk _ => (intOf vk).toNat)
        case atStart => exact ⟨bb,rfl,by omega,by omega,HU.out,HS2.out⟩
        case round =>
          obtain ⟨k,rfl,hk1,hk2,hU,S⟩:=hrel
          have HSR:=Lib.hid S
          have HUK:=Lib.hid hU
          clear S hU
          by_cases hc : i1 ≤ k
          · have hc1 : (i1 : Int) ≤ k:=by omega
            obtain ⟨x,hx⟩ : ∃ x,d1[k]! = x:=⟨_,rfl⟩
            have HCx : Hid (k < d1.size ∧ d1[k]! = x):=⟨by rw [HD.out]; omega,hx⟩
            have hnx : (k : Int) < n:=by omega
            have cx:=HSR.out.atUX HCx.out
            clear hx
            have cp:=HSR.out.atUX HCp.out
            by_cases hxy : x < p
            · have hd:=decide_eq_true hxy
              have HO : Hid (k = j1):=(dn_stop (j:=k) (fun h => by have h2:=h.2; rw [HCx.out.2] at h2; simp [ltN] at h2; omega)).symm.trans HUK.out
              go_wp2_with fail
              refine wp_region_text (S:=fun wx => Sp w0 F0 wx (srR g T d1 J :: L) ∧ (wx.cell? ⟨g,k,none⟩ = some (.int .u64 x)) ∧ (wx.cell? ⟨g,a,none⟩ = some (.int .u64 p))) (by kernel_rfl) (by kernel_rfl) ⟨(HSR.out).drew,cx,cp⟩ ?_
              repeat
                refine Exists.intro ?_ (And.intro (fun wS hS K hK => ?_) (And.intro ?_ ?_))
                rotate_left 1
                · obtain ⟨hS1,hS2,hS3⟩:=hS
                  first
                    | (refine if_unwanted rfl ?_; simp only [Act.put,List.setIfInBounds_toArray,List.set_cons_zero,List.set_cons_succ]; exact hK.out _ ⟨hS1,hS2,hS3⟩)
                    | (refine if_wanted rfl ?_; go_simp; exact hK.out _ ⟨hS1,hS2,hS3⟩)
                    | (refine if_wanted rfl ?_; go_simp; go_at_call 189; refine (lessUS x p hS1).mono ?_; rw [hd]; rintro e w12 ⟨rfl,S12⟩; exact hK.out _ ⟨S12,S12.atUX HCx.out,S12.atUX HCp.out⟩)
                · rfl
              intro wE hE
              have HSE:=Lib.hid hE.1
              clear hE
              clear cx cp hd HSR
              go_wp2_with fail
              go_meet
              exact ⟨by rw [HO.out],HSE.out⟩
            · have hd:=decide_eq_false hxy
              have HO : Hid (scanDown (fun x => !ltN x p) d1 i1 (k - 1) = j1):=(dn_go (j:=k) (by omega) (by omega) (by rw [HCx.out.2]; simpa [ltN] using hxy)).symm.trans HUK.out
              go_wp2_with fail
              refine wp_region_text (S:=fun wx => Sp w0 F0 wx (srR g T d1 J :: L) ∧ (wx.cell? ⟨g,k,none⟩ = some (.int .u64 x)) ∧ (wx.cell? ⟨g,a,none⟩ = some (.int .u64 p))) (by kernel_rfl) (by kernel_rfl) ⟨(HSR.out).drew,cx,cp⟩ ?_
              repeat
                refine Exists.intro ?_ (And.intro (fun wS hS K hK => ?_) (And.intro ?_ ?_))
                rotate_left 1
                · obtain ⟨hS1,hS2,hS3⟩:=hS
                  first
                    | (refine if_unwanted rfl ?_; simp only [Act.put,List.setIfInBounds_toArray,List.set_cons_zero,List.set_cons_succ]; exact hK.out _ ⟨hS1,hS2,hS3⟩)
                    | (refine if_wanted rfl ?_; go_simp; exact hK.out _ ⟨hS1,hS2,hS3⟩)
                    | (refine if_wanted rfl ?_; go_simp; go_at_call 189; refine (lessUS x p hS1).mono ?_; rw [hd]; rintro e w12 ⟨rfl,S12⟩; exact hK.out _ ⟨S12,S12.atUX HCx.out,S12.atUX HCp.out⟩)
                · rfl
              intro wE hE
              have HSE:=Lib.hid hE.1
              clear hE
              clear cx cp hd HSR
              go_wp2_with fail
              go_roundw
              case rel => exact ⟨k - 1,by go_num,by omega,by omega,HO.out,HSE.out⟩
              case measure => (simp [intOf]; try omega)
          · have hc1 : ¬ (i1 : Int) ≤ k:=by omega
            have HO : Hid (k = j1):=(dn_stop (j:=k) (fun h => hc h.1)).symm.trans HUK.out
            go_wp2_with fail
            refine wp_region_text (S:=fun wx => Sp w0 F0 wx (srR g T d1 J :: L)) (by kernel_rfl) (by kernel_rfl) (HSR.out).drew ?_
            repeat
              refine Exists.intro ?_ (And.intro (fun wS hS K hK => ?_) (And.intro ?_ ?_))
              rotate_left 1
              · have hS1:=hS
                first
                  | (refine if_unwanted rfl ?_; simp only [Act.put,List.setIfInBounds_toArray,List.set_cons_zero,List.set_cons_succ]; exact hK.out _ hS1)
                  | (refine if_wanted rfl ?_; go_simp; exact hK.out _ hS1)
              · rfl
            intro wE hE
            have HSE:=Lib.hid hE
            clear hE
            go_wp2_with fail
            go_meet
            exact ⟨by rw [HO.out],HSE.out⟩
      case rest =>
        obtain ⟨rfl,S⟩:=hcut
        have HS3:=Lib.hid S
        clear S HS2 HU
        have hj1n : (j1 : Int) < n:=by omega
        have hi1n : (i1 : Int) ≤ n:=by omega
        by_cases hgt : j1 < i1
        · have hgt' : (j1 : Int) < i1:=by omega
          have HO : Hid (R = (j1,true,swp d1 j1 a)):=by unfold Hid; rw [HI.out,if_pos hgt]
          obtain ⟨x,hx⟩ : ∃ x,d1[j1]! = x:=⟨_,rfl⟩
          have HCx : Hid (j1 < d1.size ∧ d1[j1]! = x):=⟨by rw [HD.out]; omega,hx⟩
          have hnx : (j1 : Int) < n:=by omega
          have cx:=HS3.out.atUX HCx.out
          clear hx
          have cx:=HS3.out.atUX HCx.out
          have cp:=HS3.out.atUX HCp.out
          have fx:=HS3.out.free j1
          have fp:=HS3.out.free a
          have gp:=HS3.out.swpMid (i:=j1) (j:=a) (y:=p) HCx.out.1 HCp.out.1
          have HP:=Lib.hid (HS3.out.swpU (i:=j1) (j:=a) HCx.out.1 HCp.out.1 HCx.out.2 HCp.out.2)
          go_wp2_with fail
          go_region
          all_goals
            clear cx cp fx fp gp
            go_wp2_with fail
            go_ret2
            rw [HO.out]
            exact ⟨rfl,HP.out⟩
        · have hgt' : ¬ (j1 : Int) < i1:=by omega
          have HO : Hid (R = ((partLoop ltN a (i1 + 1) (j1 - 1) (swp d1 i1 j1)).1,false,swp (partLoop ltN a (i1 + 1) (j1 - 1) (swp d1 i1 j1)).2 (partLoop ltN a (i1 + 1) (j1 - 1) (swp d1 i1 j1)).1 a)):=by unfold Hid; rw [HI.out,if_neg hgt]
          obtain ⟨RR,hRR⟩ : ∃ RR,partLoop ltN a (i1 + 1) (j1 - 1) (swp d1 i1 j1) = RR:=⟨_,rfl⟩
          rw [hRR] at HO
          have HRR:=Lib.hid hRR
          clear HI hRR
          obtain ⟨x,hx⟩ : ∃ x,d1[i1]! = x:=⟨_,rfl⟩
          have HCx : Hid (i1 < d1.size ∧ d1[i1]! = x):=⟨by rw [HD.out]; omega,hx⟩
          have hnx : (i1 : Int) < n:=by omega
          have cx:=HS3.out.atUX HCx.out
          clear hx
          obtain ⟨y,hy⟩ : ∃ y,d1[j1]! = y:=⟨_,rfl⟩
          have HCy : Hid (j1 < d1.size ∧ d1[j1]! = y):=⟨by rw [HD.out]; omega,hy⟩
          have hny : (j1 : Int) < n:=by omega
          have cy:=HS3.out.atUX HCy.out
          clear hy
          have cx:=HS3.out.atUX HCx.out
          have cy:=HS3.out.atUX HCy.out
          have fx:=HS3.out.free i1
          have fy:=HS3.out.free j1
          have gy:=HS3.out.swpMid (i:=i1) (j:=j1) (y:=y) HCx.out.1 HCy.out.1
          have HP:=Lib.hid (HS3.out.swpU (i:=i1) (j:=j1) HCx.out.1 HCy.out.1 HCx.out.2 HCy.out.2)
          have HPP : Hid ((swp d1 i1 j1)[a]! = p):=by unfold Hid; rw [swp_get (by omega) (by omega)]; exact HCp.out.2
          have HE : Hid ((swp d1 i1 j1).size = n):=by unfold Hid; rw [swp_size]; exact HD.out
          clear HS3 HD HCp
          go_wp2_with fail
          go_region
          all_goals
            clear cx cy fx fy gy HCx HCy
            generalize swp d1 i1 j1 = d2 at *
            clear hbI haI
            go_wp2_with fail
            go_loopw [10,11] (fun vi vj wr => ∃ (i j : Nat) (D : Array Nat),vi = .int .i64 i ∧ vj = .int .i64 j ∧ a + 1 ≤ i ∧ i ≤ j + 2 ∧ a ≤ j ∧ j < b ∧ D.size = n ∧ D[a]! = p ∧ partLoop ltN a i j D = RR ∧ Sp w0 F0 wr (srR g T D J :: L)) (fun vi vj _ => (intOf vj).toNat + 2 - (intOf vi).toNat)
            case atStart => exact ⟨i1 + 1,j1 - 1,d2,by go_num,by go_num,by omega,by omega,by omega,by omega,HE.out,HPP.out,HRR.out,HP.out⟩
            case round =>
              clear HP HE HPP HRR hu hv
              obtain ⟨i,j,D,rfl,rfl,hi,hij,haj,hj,hD,hp,hI,S⟩:=hrel
              have HS:=Lib.hid S
              have HD:=Lib.hid hD
              have HCp : Hid (a < D.size ∧ D[a]! = p):=⟨by rw [hD]; omega,hp⟩
              have HQ:=Lib.hid (partLoop_eq (i:=i) (j:=j) hp (by omega))
              rw [hI] at HQ
              have hu:=up_in (p:=(fun x => ltN x p)) (D:=D) (j:=j) _ i (Nat.le_refl _)
              obtain ⟨i2,hi2⟩ : ∃ i2,scanUp (fun x => ltN x p) D j i = i2:=⟨_,rfl⟩
              rw [hi2] at HQ hu
              have hv:=dn_in (p:=(fun x => !ltN x p)) (D:=D) (i:=i2) (by omega) j
              obtain ⟨j2,hj2⟩ : ∃ j2,scanDown (fun x => !ltN x p) D i2 j = j2:=⟨_,rfl⟩
              rw [hj2] at HQ hv
              have HU:=Lib.hid hi2
              have HV:=Lib.hid hj2
              clear S hD hp hI hi2 hj2
              have hij' : (i : Int) ≤ (j : Int) + 2:=by omega
              have hjb' : (j : Int) < b:=by omega
              obtain ⟨wo,rfl⟩ : ∃ wo : World,wo = wr:=⟨_,rfl⟩
              go_upto_block 6 with (fail)
              go_cut [10] (fun vk wx => vk = .int .i64 i2 ∧ Sp w0 F0 wx (srR g T D J :: L))
              case first =>
                go_wp2_with fail
                go_loopw [10] (fun vk wq => ∃ k : Nat,vk = .int .i64 k ∧ i ≤ k ∧ k ≤ j + 2 ∧ scanUp (fun x => ltN x p) D j k = i2 ∧ Sp w0 F0 wq (srR g T D J :: L)) (fun vk _ => j + 3 - (intOf vk).toNat)
                case atStart => exact ⟨i,rfl,by omega,by omega,HU.out,HS.out⟩
                case round =>
                  obtain ⟨k,rfl,hk1,hk2,hU,S⟩:=hrel
                  have HSR:=Lib.hid S
                  have HUK:=Lib.hid hU
                  clear S hU
                  by_cases hc : k ≤ j
                  · have hc1 : (k : Int) ≤ j:=by omega
                    obtain ⟨x,hx⟩ : ∃ x,D[k]! = x:=⟨_,rfl⟩
                    have HCx : Hid (k < D.size ∧ D[k]! = x):=⟨by rw [HD.out]; omega,hx⟩
                    have hnx : (k : Int) < n:=by omega
                    have cx:=HSR.out.atUX HCx.out
                    clear hx
                    have cp:=HSR.out.atUX HCp.out
                    by_cases hxy : x < p
                    · have hd:=decide_eq_true hxy
                      have HO : Hid (scanUp (fun x => ltN x p) D j (k + 1) = i2):=(up_go (i:=k) (by omega) (by rw [HCx.out.2]; simpa [ltN] using hxy)).symm.trans HUK.out
                      go_wp2_with fail
                      refine wp_region_text (S:=fun wx => Sp w0 F0 wx (srR g T D J :: L) ∧ (wx.cell? ⟨g,k,none⟩ = some (.int .u64 x)) ∧ (wx.cell? ⟨g,a,none⟩ = some (.int .u64 p))) (by kernel_rfl) (by kernel_rfl) ⟨(HSR.out).drew,cx,cp⟩ ?_
                      repeat
                        refine Exists.intro ?_ (And.intro (fun wS hS K hK => ?_) (And.intro ?_ ?_))
                        rotate_left 1
                        · obtain ⟨hS1,hS2,hS3⟩:=hS
                          first
                            | (refine if_unwanted rfl ?_; simp only [Act.put,List.setIfInBounds_toArray,List.set_cons_zero,List.set_cons_succ]; exact hK.out _ ⟨hS1,hS2,hS3⟩)
                            | (refine if_wanted rfl ?_; go_simp; exact hK.out _ ⟨hS1,hS2,hS3⟩)
                            | (refine if_wanted rfl ?_; go_simp; go_at_call 189; refine (lessUS x p hS1).mono ?_; rw [hd]; rintro e w12 ⟨rfl,S12⟩; exact hK.out _ ⟨S12,S12.atUX HCx.out,S12.atUX HCp.out⟩)
                        · rfl
                      intro wE hE
                      have HSE:=Lib.hid hE.1
                      clear hE
                      clear cx cp hd HSR
                      go_wp2_with fail
                      go_roundw
                      case rel => exact ⟨k + 1,by go_num,by omega,by omega,HO.out,HSE.out⟩
                      case measure => (simp [intOf]; try omega)
                    · have hd:=decide_eq_false hxy
                      have HO : Hid (k = i2):=(up_stop (i:=k) (fun h => by have h2:=h.2; rw [HCx.out.2] at h2; simp [ltN] at h2; omega)).symm.trans HUK.out
                      go_wp2_with fail
                      refine wp_region_text (S:=fun wx => Sp w0 F0 wx (srR g T D J :: L) ∧ (wx.cell? ⟨g,k,none⟩ = some (.int .u64 x)) ∧ (wx.cell? ⟨g,a,none⟩ = some (.int .u64 p))) (by kernel_rfl) (by kernel_rfl) ⟨(HSR.out).drew,cx,cp⟩ ?_
                      repeat
                        refine Exists.intro ?_ (And.intro (fun wS hS K hK => ?_) (And.intro ?_ ?_))
                        rotate_left 1
                        · obtain ⟨hS1,hS2,hS3⟩:=hS
                          first
                            | (refine if_unwanted rfl ?_; simp only [Act.put,List.setIfInBounds_toArray,List.set_cons_zero,List.set_cons_succ]; exact hK.out _ ⟨hS1,hS2,hS3⟩)
                            | (refine if_wanted rfl ?_; go_simp; exact hK.out _ ⟨hS1,hS2,hS3⟩)
                            | (refine if_wanted rfl ?_; go_simp; go_at_call 189; refine (lessUS x p hS1).mono ?_; rw [hd]; rintro e w12 ⟨rfl,S12⟩; exact hK.out _ ⟨S12,S12.atUX HCx.out,S12.atUX HCp.out⟩)
                        · rfl
                      intro wE hE
                      have HSE:=Lib.hid hE.1
                      clear hE
                      clear cx cp hd HSR
                      go_wp2_with fail
                      go_meet
                      exact ⟨by rw [HO.out],HSE.out⟩
                  · have hc1 : ¬ (k : Int) ≤ j:=by omega
                    have HO : Hid (k = i2):=(up_stop (i:=k) (fun h => hc h.1)).symm.trans HUK.out
                    go_wp2_with fail
                    refine wp_region_text (S:=fun wx => Sp w0 F0 wx (srR g T D J :: L)) (by kernel_rfl) (by kernel_rfl) (HSR.out).drew ?_
                    repeat
                      refine Exists.intro ?_ (And.intro (fun wS hS K hK => ?_) (And.intro ?_ ?_))
                      rotate_left 1
                      · have hS1:=hS
                        first
                          | (refine if_unwanted rfl ?_; simp only [Act.put,List.setIfInBounds_toArray,List.set_cons_zero,List.set_cons_succ]; exact hK.out _ hS1)
                          | (refine if_wanted rfl ?_; go_simp; exact hK.out _ hS1)
                      · rfl
                    intro wE hE
                    have HSE:=Lib.hid hE
                    clear hE
                    go_wp2_with fail
                    go_meet
                    exact ⟨by rw [HO.out],HSE.out⟩
              case rest =>
                obtain ⟨rfl,S⟩:=hcut
                have HS2:=Lib.hid S
                clear S HS HU
                have HU:=HV
                clear HV
                go_upto_block 8 with (fail)
                go_cut [11] (fun vk wx => vk = .int .i64 j2 ∧ Sp w0 F0 wx (srR g T D J :: L))
                case first =>
                  go_wp2_with fail
                  go_loopw [11] (fun vk wq => ∃ k : Nat,vk = .int .i64 k ∧ k ≤ j ∧ i2 ≤ k + 2 ∧ scanDown (fun x => !ltN x p) D i2 k = j2 ∧ Sp w0 F0 wq (srR g T D J :: L)) (fun vk _ => (intOf vk).toNat)
                  case atStart => exact ⟨j,rfl,by omega,by omega,HU.out,HS2.out⟩
                  case round =>
                    obtain ⟨k,rfl,hk1,hk2,hU,S⟩:=hrel
                    have HSR:=Lib.hid S
                    have HUK:=Lib.hid hU
                    clear S hU
                    by_cases hc : i2 ≤ k
                    · have hc1 : (i2 : Int) ≤ k:=by omega
                      obtain ⟨x,hx⟩ : ∃ x,D[k]! = x:=⟨_,rfl⟩
                      have HCx : Hid (k < D.size ∧ D[k]! = x):=⟨by rw [HD.out]; omega,hx⟩
                      have hnx : (k : Int) < n:=by omega
                      have cx:=HSR.out.atUX HCx.out
                      clear hx
                      have cp:=HSR.out.atUX HCp.out
                      by_cases hxy : x < p
                      · have hd:=decide_eq_true hxy
                        have HO : Hid (k = j2):=(dn_stop (j:=k) (fun h => by have h2:=h.2; rw [HCx.out.2] at h2; simp [ltN] at h2; omega)).symm.trans HUK.out
                        go_wp2_with fail
                        refine wp_region_text (S:=fun wx => Sp w0 F0 wx (srR g T D J :: L) ∧ (wx.cell? ⟨g,k,none⟩ = some (.int .u64 x)) ∧ (wx.cell? ⟨g,a,none⟩ = some (.int .u64 p))) (by kernel_rfl) (by kernel_rfl) ⟨(HSR.out).drew,cx,cp⟩ ?_
                        repeat
                          refine Exists.intro ?_ (And.intro (fun wS hS K hK => ?_) (And.intro ?_ ?_))
                          rotate_left 1
                          · obtain ⟨hS1,hS2,hS3⟩:=hS
                            first
                              | (refine if_unwanted rfl ?_; simp only [Act.put,List.setIfInBounds_toArray,List.set_cons_zero,List.set_cons_succ]; exact hK.out _ ⟨hS1,hS2,hS3⟩)
                              | (refine if_wanted rfl ?_; go_simp; exact hK.out _ ⟨hS1,hS2,hS3⟩)
                              | (refine if_wanted rfl ?_; go_simp; go_at_call 189; refine (lessUS x p hS1).mono ?_; rw [hd]; rintro e w12 ⟨rfl,S12⟩; exact hK.out _ ⟨S12,S12.atUX HCx.out,S12.atUX HCp.out⟩)
                          · rfl
                        intro wE hE
                        have HSE:=Lib.hid hE.1
                        clear hE
                        clear cx cp hd HSR
                        go_wp2_with fail
                        go_meet
                        exact ⟨by rw [HO.out],HSE.out⟩
                      · have hd:=decide_eq_false hxy
                        have HO : Hid (scanDown (fun x => !ltN x p) D i2 (k - 1) = j2):=(dn_go (j:=k) (by omega) (by omega) (by rw [HCx.out.2]; simpa [ltN] using hxy)).symm.trans HUK.out
                        go_wp2_with fail
                        refine wp_region_text (S:=fun wx => Sp w0 F0 wx (srR g T D J :: L) ∧ (wx.cell? ⟨g,k,none⟩ = some (.int .u64 x)) ∧ (wx.cell? ⟨g,a,none⟩ = some (.int .u64 p))) (by kernel_rfl) (by kernel_rfl) ⟨(HSR.out).drew,cx,cp⟩ ?_
                        repeat
                          refine Exists.intro ?_ (And.intro (fun wS hS K hK => ?_) (And.intro ?_ ?_))
                          rotate_left 1
                          · obtain ⟨hS1,hS2,hS3⟩:=hS
                            first
                              | (refine if_unwanted rfl ?_; simp only [Act.put,List.setIfInBounds_toArray,List.set_cons_zero,List.set_cons_succ]; exact hK.out _ ⟨hS1,hS2,hS3⟩)
                              | (refine if_wanted rfl ?_; go_simp; exact hK.out _ ⟨hS1,hS2,hS3⟩)
                              | (refine if_wanted rfl ?_; go_simp; go_at_call 189; refine (lessUS x p hS1).mono ?_; rw [hd]; rintro e w12 ⟨rfl,S12⟩; exact hK.out _ ⟨S12,S12.atUX HCx.out,S12.atUX HCp.out⟩)
                          · rfl
                        intro wE hE
                        have HSE:=Lib.hid hE.1
                        clear hE
                        clear cx cp hd HSR
                        go_wp2_with fail
                        go_roundw
                        case rel => exact ⟨k - 1,by go_num,by omega,by omega,HO.out,HSE.out⟩
                        case measure => (simp [intOf]; try omega)
                    · have hc1 : ¬ (i2 : Int) ≤ k:=by omega
                      have HO : Hid (k = j2):=(dn_stop (j:=k) (fun h => hc h.1)).symm.trans HUK.out
                      go_wp2_with fail
                      refine wp_region_text (S:=fun wx => Sp w0 F0 wx (srR g T D J :: L)) (by kernel_rfl) (by kernel_rfl) (HSR.out).drew ?_
                      repeat
                        refine Exists.intro ?_ (And.intro (fun wS hS K hK => ?_) (And.intro ?_ ?_))
                        rotate_left 1
                        · have hS1:=hS
                          first
                            | (refine if_unwanted rfl ?_; simp only [Act.put,List.setIfInBounds_toArray,List.set_cons_zero,List.set_cons_succ]; exact hK.out _ hS1)
                            | (refine if_wanted rfl ?_; go_simp; exact hK.out _ hS1)
                        · rfl
                      intro wE hE
                      have HSE:=Lib.hid hE
                      clear hE
                      go_wp2_with fail
                      go_meet
                      exact ⟨by rw [HO.out],HSE.out⟩
                case rest =>
                  obtain ⟨rfl,S⟩:=hcut
                  have HS3:=Lib.hid S
                  clear S HS2 HU
                  have hj2n : (j2 : Int) < n:=by omega
                  by_cases hgt : j2 < i2
                  · have hgt' : (j2 : Int) < i2:=by omega
                    have HQ2 : Hid (RR = (j2,D)):=by unfold Hid; rw [HQ.out,if_pos hgt]
                    rw [HQ2.out] at HO
                    clear HQ HQ2
                    obtain ⟨x,hx⟩ : ∃ x,D[j2]! = x:=⟨_,rfl⟩
                    have HCx : Hid (j2 < D.size ∧ D[j2]! = x):=⟨by rw [HD.out]; omega,hx⟩
                    have hnx : (j2 : Int) < n:=by omega
                    have cx:=HS3.out.atUX HCx.out
                    clear hx
                    have cx:=HS3.out.atUX HCx.out
                    have cp:=HS3.out.atUX HCp.out
                    have fx:=HS3.out.free j2
                    have fp:=HS3.out.free a
                    have gp:=HS3.out.swpMid (i:=j2) (j:=a) (y:=p) HCx.out.1 HCp.out.1
                    have HP:=Lib.hid (HS3.out.swpU (i:=j2) (j:=a) HCx.out.1 HCp.out.1 HCx.out.2 HCp.out.2)
                    go_wp2_with fail
                    go_region
                    all_goals
                      clear cx cp fx fp gp
                      go_wp2_with fail
                      go_ret2
                      rw [HO.out]
                      exact ⟨rfl,HP.out⟩
                  · have hgt' : ¬ (j2 : Int) < i2:=by omega
                    have HQ2 : Hid (partLoop ltN a (i2 + 1) (j2 - 1) (swp D i2 j2) = RR):=by unfold Hid; rw [HQ.out,if_neg hgt]
                    obtain ⟨x,hx⟩ : ∃ x,D[i2]! = x:=⟨_,rfl⟩
                    have HCx : Hid (i2 < D.size ∧ D[i2]! = x):=⟨by rw [HD.out]; omega,hx⟩
                    have hnx : (i2 : Int) < n:=by omega
                    have cx:=HS3.out.atUX HCx.out
                    clear hx
                    obtain ⟨y,hy⟩ : ∃ y,D[j2]! = y:=⟨_,rfl⟩
                    have HCy : Hid (j2 < D.size ∧ D[j2]! = y):=⟨by rw [HD.out]; omega,hy⟩
                    have hny : (j2 : Int) < n:=by omega
                    have cy:=HS3.out.atUX HCy.out
                    clear hy
                    have cx:=HS3.out.atUX HCx.out
                    have cy:=HS3.out.atUX HCy.out
                    have fx:=HS3.out.free i2
                    have fy:=HS3.out.free j2
                    have gy:=HS3.out.swpMid (i:=i2) (j:=j2) (y:=y) HCx.out.1 HCy.out.1
                    have HP:=Lib.hid (HS3.out.swpU (i:=i2) (j:=j2) HCx.out.1 HCy.out.1 HCx.out.2 HCy.out.2)
                    have HPP : Hid ((swp D i2 j2)[a]! = p):=by unfold Hid; rw [swp_get (by omega) (by omega)]; exact HCp.out.2
                    clear HS3 HQ
                    go_wp2_with fail
                    go_region
                    all_goals
                      clear cx cy fx fy gy
                      go_wp2_with fail
                      go_roundw
                      case rel => exact ⟨i2 + 1,j2 - 1,_,by go_num,by go_num,by omega,by omega,by omega,by omega,by rw [swp_size]; exact HD.out,HPP.out,HQ2.out,HP.out⟩
                      case measure => (simp [intOf]; try omega)
end
end
end Go.Proofs.YtangbdahnmomlaaGreatDoor
