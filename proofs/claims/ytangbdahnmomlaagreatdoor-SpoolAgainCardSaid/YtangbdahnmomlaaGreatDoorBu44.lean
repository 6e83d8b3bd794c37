/- law 16: is an act too large; one. Conditions: the argument is one. law 16: an act is played. Conditions: the lengths fit; what Go's variables hold; the act is none of who breaks disks. -/
import Derived.Test.YtangbdahnmomlaaGreatDoorBu43
set_option linter.unnecessarySimpa false
set_option linter.unusedSimpArgs false
set_option linter.unusedVariables false
set_option maxHeartbeats 8000000
set_option maxRecDepth 100000
namespace Go.Proofs.YtangbdahnmomlaaGreatDoor
section
open Go.RowKit Go.Maps
def bigTo3 (x : Rcp) : Bool:=decide (300 < x.1.1.length) || decide (300 < x.1.2.length)
def large16 (x : A16) : Bool:=decide (1200 < x.body.length) || (decide (15 < x.e.rcs.length) || (decide (300 < x.e.dom.length) || (decide (300 < x.e.frm.1.length) || (decide (300 < x.e.frm.2.length) || x.e.rcs.any bigTo3))))
theorem large16_fit {x : A16} (h : x.Wf) (hl : large16 x = false) : x.e.Fit ∧ x.body.length ≤ 1200:=by
  unfold large16 at hl
  simp only [Bool.or_eq_false_iff,decide_eq_false_iff_not,List.any_eq_false] at hl
  obtain ⟨h1,h2,h3,h4,h5,h6⟩:=hl
  refine ⟨⟨h.e.id,h.e.ep,h.e.cnt,h.e.born,h.e.nxt,h.e.tries,by omega,by omega,by omega,fun y hy => ?_⟩,by omega⟩
  have g:=h6 y hy
  unfold bigTo3 at g
  have gw:=h.e.each y hy
  unfold Rcp.Wf at gw
  simp at g
  omega
section
variable {w : World} {v : Value}
theorem large16_any (x : A16) (v : Value) (w : World) (T : TosAt w v x.e.rcs) : Calls Tryz.prog 19 #[A16.agg (x,v)] w fun r w2 => r = .returned (.bool (large16 x)) ∧ Ext [] w w2:=by
  have HS0:=Lib.hid ((Sp.nil w []).box (A16.vals (x,v)).toArray 64)
  have HT:=Lib.hid T
  have HV : Hid (large16 x = (decide (1200 < x.body.length) || (decide (15 < x.e.rcs.length) || (decide (300 < x.e.dom.length) || (decide (300 < x.e.frm.1.length) || (decide (300 < x.e.frm.2.length) || x.e.rcs.any bigTo3)))))):=rfl
  obtain ⟨kind,nn,mm,⟨id,dom,ep,cnt,⟨fl,fd⟩,rcs,born,nxt,tries⟩,body⟩:=x
  obtain ⟨va,vc,rfl⟩:=T.form
  unfold A16.agg
  unfold A16.vals at *
  dsimp only at *
  clear T
  go_enter Tryz.func19,Tryz.ntmps19
  go_upto_region 1 with (fail)
  generalize w.alloc _ = w1 at *
  generalize w.heap.size = q at *
  have c0:=HS0.out.cell
  by_cases h0 : 1200 < body.length
  · have h0' : (1200 : Int) < body.length:=by omega
    have HW : Hid (large16 ⟨kind,nn,mm,⟨id,dom,ep,cnt,(fl,fd),rcs,born,nxt,tries⟩,body⟩ = true):=by unfold Hid; rw [HV.out,decide_eq_true h0]; simp
    clear h0
    go_wp2
    go_ret
    exact ⟨by rw [HW.out]; rfl,HS0.out.ext⟩
  have h0' : (body.length : Int) ≤ 1200:=by omega
  by_cases h1 : 15 < rcs.length
  · have h1' : (15 : Int) < rcs.length:=by omega
    have HW : Hid (large16 ⟨kind,nn,mm,⟨id,dom,ep,cnt,(fl,fd),rcs,born,nxt,tries⟩,body⟩ = true):=by unfold Hid; rw [HV.out,decide_eq_true h1]; simp
    clear h0 h1
    go_wp2
    go_ret
    exact ⟨by rw [HW.out]; rfl,HS0.out.ext⟩
  have h1' : (rcs.length : Int) ≤ 15:=by omega
  by_cases h2 : 300 < dom.length
  · have h2' : (300 : Int) < dom.length:=by omega
    have HW : Hid (large16 ⟨kind,nn,mm,⟨id,dom,ep,cnt,(fl,fd),rcs,born,nxt,tries⟩,body⟩ = true):=by unfold Hid; rw [HV.out,decide_eq_true h2]; simp
    clear h0 h1 h2
    go_wp2
    go_ret
    exact ⟨by rw [HW.out]; rfl,HS0.out.ext⟩
  have h2' : (dom.length : Int) ≤ 300:=by omega
  by_cases h3 : 300 < fl.length
  · have h3' : (300 : Int) < fl.length:=by omega
    have HW : Hid (large16 ⟨kind,nn,mm,⟨id,dom,ep,cnt,(fl,fd),rcs,born,nxt,tries⟩,body⟩ = true):=by unfold Hid; rw [HV.out,decide_eq_true h3]; simp
    clear h0 h1 h2 h3
    go_wp2
    go_ret
    exact ⟨by rw [HW.out]; rfl,HS0.out.ext⟩
  have h3' : (fl.length : Int) ≤ 300:=by omega
  by_cases h4 : 300 < fd.length
  · have h4' : (300 : Int) < fd.length:=by omega
    have HW : Hid (large16 ⟨kind,nn,mm,⟨id,dom,ep,cnt,(fl,fd),rcs,born,nxt,tries⟩,body⟩ = true):=by unfold Hid; rw [HV.out,decide_eq_true h4]; simp
    clear h0 h1 h2 h3 h4
    go_wp2
    go_ret
    exact ⟨by rw [HW.out]; rfl,HS0.out.ext⟩
  have h4' : (fd.length : Int) ≤ 300:=by omega
  have HV2 : Hid (large16 ⟨kind,nn,mm,⟨id,dom,ep,cnt,(fl,fd),rcs,born,nxt,tries⟩,body⟩ = rcs.any bigTo3):=by unfold Hid; rw [HV.out,decide_eq_false h0,decide_eq_false h1,decide_eq_false h2,decide_eq_false h3,decide_eq_false h4]; rfl
  clear h0 h1 h2 h3 h4 HV
  go_wp2_with fail
  go_loopw [42] (fun at0 wr => ∃ k : Nat,at0 = .int .i64 k ∧ k ≤ rcs.length ∧ (∀ x ∈ rcs.take k,bigTo3 x = false) ∧ wr = w1) (fun at0 _ => rcs.length - (intOf at0).toNat)
  case atStart => exact ⟨0,rfl,Nat.zero_le _,by simp,by trivial⟩
  case round =>
    obtain ⟨k,rfl,hk,hall,rfl⟩:=hrel
    have HA:=Lib.hid hall
    clear hall
    have hk' : (k : Int) ≤ rcs.length:=by omega
    by_cases hlt : k < rcs.length
    · have hlt' : (k : Int) < rcs.length:=by omega
      obtain ⟨xb,xo,hva,x0,x1,x2⟩:=(HT.out.ext HS0.out.ext).at hlt
      subst hva
      have HTK : Hid (rcs.take (k + 1) = rcs.take k ++ [rcs[k]]):=List.take_succ_eq_append_getElem hlt
      have HMEM:=Lib.hid (List.getElem_mem hlt)
      generalize rcs[k] = x at *
      obtain ⟨⟨xl,xd⟩,st⟩:=x
      dsimp only at *
      by_cases g1 : 300 < xl.length
      · have g1' : (300 : Int) < xl.length:=by omega
        have HW : Hid (large16 ⟨kind,nn,mm,⟨id,dom,ep,cnt,(fl,fd),rcs,born,nxt,tries⟩,body⟩ = true):=by
          unfold Hid
          rw [HV2.out,List.any_eq_true]
          exact ⟨_,HMEM.out,by unfold bigTo3; rw [decide_eq_true g1]; rfl⟩
        clear g1
        go_wp2
        go_ret
        exact ⟨by rw [HW.out]; rfl,HS0.out.ext⟩
      have g1' : (xl.length : Int) ≤ 300:=by omega
      by_cases g2 : 300 < xd.length
      · have g2' : (300 : Int) < xd.length:=by omega
        have HW : Hid (large16 ⟨kind,nn,mm,⟨id,dom,ep,cnt,(fl,fd),rcs,born,nxt,tries⟩,body⟩ = true):=by
          unfold Hid
          rw [HV2.out,List.any_eq_true]
          exact ⟨_,HMEM.out,by unfold bigTo3; rw [decide_eq_true g2]; simp⟩
        clear g1 g2
        go_wp2
        go_ret
        exact ⟨by rw [HW.out]; rfl,HS0.out.ext⟩
      have g2' : (xd.length : Int) ≤ 300:=by omega
      have HXF : Hid (bigTo3 ((xl,xd),st) = false):=by unfold Hid bigTo3; dsimp only; rw [decide_eq_false g1,decide_eq_false g2]; rfl
      clear g1 g2
      go_wp2_with fail
      go_roundw
      case rel => exact ⟨k + 1,by go_num,by omega,fun y hy => by
          rw [HTK.out,List.mem_append] at hy
          rcases hy with hy | hy
          · exact HA.out y hy
          · rw [List.mem_singleton.1 hy]; exact HXF.out,by trivial⟩
      case measure => simp [intOf]; omega
    · obtain rfl : k = rcs.length:=by omega
      have HW : Hid (large16 ⟨kind,nn,mm,⟨id,dom,ep,cnt,(fl,fd),rcs,born,nxt,tries⟩,body⟩ = false):=by
        unfold Hid
        rw [HV2.out,List.any_eq_false]
        intro x hx
        rw [HA.out x (by rw [List.take_length]; exact hx)]
        simp
      go_wp2
      go_ret
      exact ⟨by rw [HW.out]; rfl,HS0.out.ext⟩
end
end
section
open Go.RowKit Go.Maps
section
variable {w0 w : World} {L : List Res} {P : SlPt} {c : Sc} {Q : Sq}
theorem played16S (x : A16) (v : Value) (n : Nat) (hk : x.kind ≤ 5) (hf : x.e.Fit) (h : SlOk c n Q) (hn : n ≤ 950000) (E : Env w0) (T : TosAt w0 v x.e.rcs) (S : Sp w0 [] w (slPs P c Q L)) :
    Calls Tryz.prog 28 #[.pointer (some ⟨P.s,0,none⟩),.pointer (some ⟨P.d,0,none⟩),A16.agg (x,v)] w fun r w2 => ∃ b,r = .returned (.bool b) ∧ Sp w0 [] w2 (slPs P c (x.play c Q) L):=by
  have HPU:=Lib.hid (fun (w' : World) (K' : List Res) (S' : Sp w0 [] w' (slPs P c Q K')) => slPutS (v:=v) x.e x.body n hf h (by omega) E (fun w2 X SX => T.ext SX.ext) S')
  have HLD:=Lib.hid (fun (w' : World) (K' : List Res) (S' : Sp w0 [] w' (slPs P c Q K')) => slLoadS x.e.id n hf.id h (by omega) E S')
  have HUP:=Lib.hid (fun (w' : World) (K' : List Res) (S' : Sp w0 [] w' (slPs P c Q K')) => slUpdateS (v:=v) x.e n hf h (by omega) E (fun w2 X SX => T.ext SX.ext) S')
  have HRM:=Lib.hid (fun (w' : World) (K' : List Res) (S' : Sp w0 [] w' (slPs P c Q K')) => slRemoveS x.e.id n hf.id h (by omega) E S')
  have HBE:=Lib.hid (fun (w' : World) (K' : List Res) (S' : Sp w0 [] w' (slPs P c Q K')) => slBeginS x.e.dom n hf.dom h (by omega) S')
  have HST:=Lib.hid (fun (w' : World) (K' : List Res) (S' : Sp w0 [] w' (slPs P c Q K')) => slStepS x.e.dom n hf.dom h (by omega) E S')
  have HV : Hid (x.play c Q = if x.kind = 0 then (Q.put c x.e x.body).1 else if x.kind = 1 then (Q.load c.master x.e.id).1 else if x.kind = 2 then (Q.update c x.e).1
    else if x.kind = 3 then (Q.remove x.e.id).1 else if x.kind = 4 then (Q.begin x.e.dom).1 else if x.kind = 5 then (Q.step c x.e.dom).1 else Q):=rfl
  obtain ⟨va,vc,rfl⟩:=T.form
  have S0:=S.box (A16.vals (x,.slice va x.e.rcs.length vc)).toArray 64
  generalize x.play c Q = po at *
  generalize Q.put c x.e x.body = r0 at *
  generalize Q.load c.master x.e.id = r1 at *
  generalize Q.update c x.e = r2 at *
  generalize Q.remove x.e.id = r3 at *
  generalize Q.begin x.e.dom = r4 at *
  generalize Q.step c x.e.dom = r5 at *
  obtain ⟨kind,nn,mm,⟨xi,xd,xe,xc,xf,xr,xb,xn,xt⟩,body⟩:=x
  unfold A16.agg
  unfold A16.vals enAgg at *
  dsimp only at *
  unfold slPs at S0
  have HS0:=Lib.hid ((Sp.pick [_,_,_,_,_,_,_] [1,2,3,4,5,6,0] (by decide) (S0)))
  clear S S0 E T h hf hn
  go_enter Tryz.func28,Tryz.ntmps28
  go_upto_region 1 with (fail)
  generalize w.alloc _ = w1 at *
  generalize w.heap.size = q at *
  have hcase : kind = 0 ∨ kind = 1 ∨ kind = 2 ∨ kind = 3 ∨ kind = 4 ∨ kind = 5 ∨ kind < 0:=by omega
  clear hk
  rcases hcase with rfl | rfl | rfl | rfl | rfl | rfl | hneg
  · have HV2 : Hid (po = r0.1):=by unfold Hid; rw [HV.out]; simp
    have HZ : Hid (Sp w0 [] w1 (slPs P c Q (boxR q #[.int .i64 0,.int .i64 nn,.int .i64 mm,.int .u64 xi,.string ⟨xd.toArray⟩,.int .u64 xe,.int .u64 xc,.string ⟨xf.1.toArray⟩,.string ⟨xf.2.toArray⟩,.slice va xr.length vc,.int .u64 xb,.int .u64 xn,.int .i64 xt,.string ⟨body.toArray⟩] 64 :: L))):=HS0.out
    have c0:=(show Sp w0 [] w1 (boxR q #[.int .i64 0,.int .i64 nn,.int .i64 mm,.int .u64 xi,.string ⟨xd.toArray⟩,.int .u64 xe,.int .u64 xc,.string ⟨xf.1.toArray⟩,.string ⟨xf.2.toArray⟩,.slice va xr.length vc,.int .u64 xb,.int .u64 xn,.int .i64 xt,.string ⟨body.toArray⟩] 64 :: L) from by have h:=HZ.out; unfold slPs at h; exact (Sp.pick [_,_,_,_,_,_,_] [6] (by decide) (h))).cell
    clear HV HS0
    go_wp2_with fail
    refine (HPU.out _ _ HZ.out).mono ?_
    rintro r w2 ⟨rfl,S⟩
    have S1:=S
    unfold slPs at S1
    have c0:=(show Sp w0 [] w2 (boxR q #[.int .i64 0,.int .i64 nn,.int .i64 mm,.int .u64 xi,.string ⟨xd.toArray⟩,.int .u64 xe,.int .u64 xc,.string ⟨xf.1.toArray⟩,.string ⟨xf.2.toArray⟩,.slice va xr.length vc,.int .u64 xb,.int .u64 xn,.int .i64 xt,.string ⟨body.toArray⟩] 64 :: L) from (Sp.pick [_,_,_,_,_,_,_] [6] (by decide) (S1))).cell
    have HS1:=Lib.hid ((Sp.pick [_,_,_,_,_,_,_] [0,1,2,3,4,5] (by decide) (S1)))
    clear S S1 HZ HPU HLD HUP HRM HBE HST
    go_wp2
    go_ret
    exact ⟨_,rfl,by rw [HV2.out]; exact HS1.out⟩
  · have HV2 : Hid (po = r1.1):=by unfold Hid; rw [HV.out]; simp
    have HZ : Hid (Sp w0 [] w1 (slPs P c Q (boxR q #[.int .i64 1,.int .i64 nn,.int .i64 mm,.int .u64 xi,.string ⟨xd.toArray⟩,.int .u64 xe,.int .u64 xc,.string ⟨xf.1.toArray⟩,.string ⟨xf.2.toArray⟩,.slice va xr.length vc,.int .u64 xb,.int .u64 xn,.int .i64 xt,.string ⟨body.toArray⟩] 64 :: L))):=HS0.out
    have c0:=(show Sp w0 [] w1 (boxR q #[.int .i64 1,.int .i64 nn,.int .i64 mm,.int .u64 xi,.string ⟨xd.toArray⟩,.int .u64 xe,.int .u64 xc,.string ⟨xf.1.toArray⟩,.string ⟨xf.2.toArray⟩,.slice va xr.length vc,.int .u64 xb,.int .u64 xn,.int .i64 xt,.string ⟨body.toArray⟩] 64 :: L) from by have h:=HZ.out; unfold slPs at h; exact (Sp.pick [_,_,_,_,_,_,_] [6] (by decide) (h))).cell
    clear HV HS0
    go_wp2_with fail
    refine (HLD.out _ _ HZ.out).mono ?_
    rintro r w2 ⟨v1,rfl,S⟩
    have S1:=S.drop
    unfold slPs at S1
    have c0:=(show Sp w0 [] w2 (boxR q #[.int .i64 1,.int .i64 nn,.int .i64 mm,.int .u64 xi,.string ⟨xd.toArray⟩,.int .u64 xe,.int .u64 xc,.string ⟨xf.1.toArray⟩,.string ⟨xf.2.toArray⟩,.slice va xr.length vc,.int .u64 xb,.int .u64 xn,.int .i64 xt,.string ⟨body.toArray⟩] 64 :: L) from (Sp.pick [_,_,_,_,_,_,_] [6] (by decide) (S1))).cell
    have HS1:=Lib.hid ((Sp.pick [_,_,_,_,_,_,_] [0,1,2,3,4,5] (by decide) (S1)))
    clear S S1 HZ HPU HLD HUP HRM HBE HST
    go_wp2
    go_ret
    exact ⟨_,rfl,by rw [HV2.out]; exact HS1.out⟩
  · have HV2 : Hid (po = r2.1):=by unfold Hid; rw [HV.out]; simp
    have HZ : Hid (Sp w0 [] w1 (slPs P c Q (boxR q #[.int .i64 2,.int .i64 nn,.int .i64 mm,.int .u64 xi,.string ⟨xd.toArray⟩,.int .u64 xe,.int .u64 xc,.string ⟨xf.1.toArray⟩,.string ⟨xf.2.toArray⟩,.slice va xr.length vc,.int .u64 xb,.int .u64 xn,.int .i64 xt,.string ⟨body.toArray⟩] 64 :: L))):=HS0.out
    have c0:=(show Sp w0 [] w1 (boxR q #[.int .i64 2,.int .i64 nn,.int .i64 mm,.int .u64 xi,.string ⟨xd.toArray⟩,.int .u64 xe,.int .u64 xc,.string ⟨xf.1.toArray⟩,.string ⟨xf.2.toArray⟩,.slice va xr.length vc,.int .u64 xb,.int .u64 xn,.int .i64 xt,.string ⟨body.toArray⟩] 64 :: L) from by have h:=HZ.out; unfold slPs at h; exact (Sp.pick [_,_,_,_,_,_,_] [6] (by decide) (h))).cell
    clear HV HS0
    go_wp2_with fail
    refine (HUP.out _ _ HZ.out).mono ?_
    rintro r w2 ⟨rfl,S⟩
    have S1:=S
    unfold slPs at S1
    have c0:=(show Sp w0 [] w2 (boxR q #[.int .i64 2,.int .i64 nn,.int .i64 mm,.int .u64 xi,.string ⟨xd.toArray⟩,.int .u64 xe,.int .u64 xc,.string ⟨xf.1.toArray⟩,.string ⟨xf.2.toArray⟩,.slice va xr.length vc,.int .u64 xb,.int .u64 xn,.int .i64 xt,.string ⟨body.toArray⟩] 64 :: L) from (Sp.pick [_,_,_,_,_,_,_] [6] (by decide) (S1))).cell
    have HS1:=Lib.hid ((Sp.pick [_,_,_,_,_,_,_] [0,1,2,3,4,5] (by decide) (S1)))
    clear S S1 HZ HPU HLD HUP HRM HBE HST
    go_wp2
    go_ret
    exact ⟨_,rfl,by rw [HV2.out]; exact HS1.out⟩
  · have HV2 : Hid (po = r3.1):=by unfold Hid; rw [HV.out]; simp
    have HZ : Hid (Sp w0 [] w1 (slPs P c Q (boxR q #[.int .i64 3,.int .i64 nn,.int .i64 mm,.int .u64 xi,.string ⟨xd.toArray⟩,.int .u64 xe,.int .u64 xc,.string ⟨xf.1.toArray⟩,.string ⟨xf.2.toArray⟩,.slice va xr.length vc,.int .u64 xb,.int .u64 xn,.int .i64 xt,.string ⟨body.toArray⟩] 64 :: L))):=HS0.out
    have c0:=(show Sp w0 [] w1 (boxR q #[.int .i64 3,.int .i64 nn,.int .i64 mm,.int .u64 xi,.string ⟨xd.toArray⟩,.int .u64 xe,.int .u64 xc,.string ⟨xf.1.toArray⟩,.string ⟨xf.2.toArray⟩,.slice va xr.length vc,.int .u64 xb,.int .u64 xn,.int .i64 xt,.string ⟨body.toArray⟩] 64 :: L) from by have h:=HZ.out; unfold slPs at h; exact (Sp.pick [_,_,_,_,_,_,_] [6] (by decide) (h))).cell
    clear HV HS0
    go_wp2_with fail
    refine (HRM.out _ _ HZ.out).mono ?_
    rintro r w2 ⟨rfl,S⟩
    have S1:=S
    unfold slPs at S1
    have c0:=(show Sp w0 [] w2 (boxR q #[.int .i64 3,.int .i64 nn,.int .i64 mm,.int .u64 xi,.string ⟨xd.toArray⟩,.int .u64 xe,.int .u64 xc,.string ⟨xf.1.toArray⟩,.string ⟨xf.2.toArray⟩,.slice va xr.length vc,.int .u64 xb,.int .u64 xn,.int .i64 xt,.string ⟨body.toArray⟩] 64 :: L) from (Sp.pick [_,_,_,_,_,_,_] [6] (by decide) (S1))).cell
    have HS1:=Lib.hid ((Sp.pick [_,_,_,_,_,_,_] [0,1,2,3,4,5] (by decide) (S1)))
    clear S S1 HZ HPU HLD HUP HRM HBE HST
    go_wp2
    go_ret
    exact ⟨_,rfl,by rw [HV2.out]; exact HS1.out⟩
  · have HV2 : Hid (po = r4.1):=by unfold Hid; rw [HV.out]; simp
    have HZ : Hid (Sp w0 [] w1 (slPs P c Q (boxR q #[.int .i64 4,.int .i64 nn,.int .i64 mm,.int .u64 xi,.string ⟨xd.toArray⟩,.int .u64 xe,.int .u64 xc,.string ⟨xf.1.toArray⟩,.string ⟨xf.2.toArray⟩,.slice va xr.length vc,.int .u64 xb,.int .u64 xn,.int .i64 xt,.string ⟨body.toArray⟩] 64 :: L))):=HS0.out
    have c0:=(show Sp w0 [] w1 (boxR q #[.int .i64 4,.int .i64 nn,.int .i64 mm,.int .u64 xi,.string ⟨xd.toArray⟩,.int .u64 xe,.int .u64 xc,.string ⟨xf.1.toArray⟩,.string ⟨xf.2.toArray⟩,.slice va xr.length vc,.int .u64 xb,.int .u64 xn,.int .i64 xt,.string ⟨body.toArray⟩] 64 :: L) from by have h:=HZ.out; unfold slPs at h; exact (Sp.pick [_,_,_,_,_,_,_] [6] (by decide) (h))).cell
    clear HV HS0
    go_wp2_with fail
    refine (HBE.out _ _ HZ.out).mono ?_
    rintro r w2 ⟨rfl,S⟩
    have S1:=S
    unfold slPs at S1
    have c0:=(show Sp w0 [] w2 (boxR q #[.int .i64 4,.int .i64 nn,.int .i64 mm,.int .u64 xi,.string ⟨xd.toArray⟩,.int .u64 xe,.int .u64 xc,.string ⟨xf.1.toArray⟩,.string ⟨xf.2.toArray⟩,.slice va xr.length vc,.int .u64 xb,.int .u64 xn,.int .i64 xt,.string ⟨body.toArray⟩] 64 :: L) from (Sp.pick [_,_,_,_,_,_,_] [6] (by decide) (S1))).cell
    have HS1:=Lib.hid ((Sp.pick [_,_,_,_,_,_,_] [0,1,2,3,4,5] (by decide) (S1)))
    clear S S1 HZ HPU HLD HUP HRM HBE HST
    go_wp2
    go_ret
    exact ⟨_,rfl,by rw [HV2.out]; exact HS1.out⟩
  · have HV2 : Hid (po = r5.1):=by unfold Hid; rw [HV.out]; simp
    have HZ : Hid (Sp w0 [] w1 (slPs P c Q (boxR q #[.int .i64 5,.int .i64 nn,.int .i64 mm,.int .u64 xi,.string ⟨xd.toArray⟩,.int .u64 xe,.int .u64 xc,.string ⟨xf.1.toArray⟩,.string ⟨xf.2.toArray⟩,.slice va xr.length vc,.int .u64 xb,.int .u64 xn,.int .i64 xt,.string ⟨body.toArray⟩] 64 :: L))):=HS0.out
    have c0:=(show Sp w0 [] w1 (boxR q #[.int .i64 5,.int .i64 nn,.int .i64 mm,.int .u64 xi,.string ⟨xd.toArray⟩,.int .u64 xe,.int .u64 xc,.string ⟨xf.1.toArray⟩,.string ⟨xf.2.toArray⟩,.slice va xr.length vc,.int .u64 xb,.int .u64 xn,.int .i64 xt,.string ⟨body.toArray⟩] 64 :: L) from by have h:=HZ.out; unfold slPs at h; exact (Sp.pick [_,_,_,_,_,_,_] [6] (by decide) (h))).cell
    clear HV HS0
    go_wp2_with fail
    refine (HST.out _ _ HZ.out).mono ?_
    rintro r w2 ⟨rfl,S⟩
    have S1:=S
    unfold slPs at S1
    have c0:=(show Sp w0 [] w2 (boxR q #[.int .i64 5,.int .i64 nn,.int .i64 mm,.int .u64 xi,.string ⟨xd.toArray⟩,.int .u64 xe,.int .u64 xc,.string ⟨xf.1.toArray⟩,.string ⟨xf.2.toArray⟩,.slice va xr.length vc,.int .u64 xb,.int .u64 xn,.int .i64 xt,.string ⟨body.toArray⟩] 64 :: L) from (Sp.pick [_,_,_,_,_,_,_] [6] (by decide) (S1))).cell
    have HS1:=Lib.hid ((Sp.pick [_,_,_,_,_,_,_] [0,1,2,3,4,5] (by decide) (S1)))
    clear S S1 HZ HPU HLD HUP HRM HBE HST
    go_wp2
    go_ret
    exact ⟨_,rfl,by rw [HV2.out]; exact HS1.out⟩
  · have HV2 : Hid (po = Q):=by unfold Hid; rw [HV.out]; repeat' rw [if_neg (by omega)]
    have c0:=(show Sp w0 [] w1 (boxR q #[.int .i64 kind,.int .i64 nn,.int .i64 mm,.int .u64 xi,.string ⟨xd.toArray⟩,.int .u64 xe,.int .u64 xc,.string ⟨xf.1.toArray⟩,.string ⟨xf.2.toArray⟩,.slice va xr.length vc,.int .u64 xb,.int .u64 xn,.int .i64 xt,.string ⟨body.toArray⟩] 64 :: L) from (Sp.pick [_,_,_,_,_,_,_] [6] (by decide) (HS0.out))).cell
    have n0 : (kind == 0) = false:=by simp only [beq_eq_false_iff_ne]; omega
    have n1 : (kind == 1) = false:=by simp only [beq_eq_false_iff_ne]; omega
    have n2 : (kind == 2) = false:=by simp only [beq_eq_false_iff_ne]; omega
    have n3 : (kind == 3) = false:=by simp only [beq_eq_false_iff_ne]; omega
    have n4 : (kind == 4) = false:=by simp only [beq_eq_false_iff_ne]; omega
    have n5 : (kind == 5) = false:=by simp only [beq_eq_false_iff_ne]; omega
    have n6 : (kind == 6) = false:=by simp only [beq_eq_false_iff_ne]; omega
    have n7 : (kind == 7) = false:=by simp only [beq_eq_false_iff_ne]; omega
    have n8 : (kind == 8) = false:=by simp only [beq_eq_false_iff_ne]; omega
    have n9 : (kind == 9) = false:=by simp only [beq_eq_false_iff_ne]; omega
    have n10 : (kind == 10) = false:=by simp only [beq_eq_false_iff_ne]; omega
    have n11 : (kind == 11) = false:=by simp only [beq_eq_false_iff_ne]; omega
    have HS1:=Lib.hid ((Sp.pick [_,_,_,_,_,_,_] [0,1,2,3,4,5] (by decide) (HS0.out)))
    clear HS0 HPU HLD HUP HRM HBE HST HV hneg
    go_wp2
    go_ret
    exact ⟨_,rfl,by rw [HV2.out]; exact HS1.out⟩
end
end
end Go.Proofs.YtangbdahnmomlaaGreatDoor
