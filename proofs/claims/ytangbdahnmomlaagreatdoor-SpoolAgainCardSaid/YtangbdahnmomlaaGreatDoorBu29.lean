/- entry.Seal and entry.Open over a box that is real or ideal; spool.open. Conditions: the lengths fit. -/
import Derived.Test.YtangbdahnmomlaaGreatDoorBu23
import Derived.Test.YtangbdahnmomlaaGreatDoorBu28
set_option linter.unnecessarySimpa false
set_option linter.unusedSimpArgs false
set_option linter.unusedVariables false
set_option maxHeartbeats 4000000
set_option maxRecDepth 100000
namespace Go.Proofs.YtangbdahnmomlaaGreatDoor
section
open Go.RowKit Go.Maps
theorem rlSealLen (key n d t : Bs) : (rlSeal key n d t).1.length ≤ 1000000:=by
  unfold rlSeal
  split
  · dsimp only
    rw [chC.shut_length]
    omega
  · simp
theorem rlOpenLen (key n d s : Bs) : (rlOpen key n d s).1.length ≤ 1000000:=by
  unfold rlOpen
  split
  · unfold Cipher.open
    split
    · rename_i h
      split at h
      · cases h
        dsimp only
        rw [xorB_length _ _ (by rw [chC.stream_length,List.length_take]; omega),List.length_take]
        omega
      · cases h
    · simp
  · simp
def Bx.ok : Bx → Prop
  | .real => True
  | .ideal D T => TabOk T ∧ D.length ≤ 1000000
section
variable {w0 w : World} {L : List Res} {v : Value} {b : Nat}
theorem slSealS (B : Bx) (e : En) (key body : Bs) (E : Env w0) (hf : e.Fit) (hk : key.length = 32) (hB : B.ok) (T : TosAt w v e.rcs) (S : Sp w0 [] w (bxR b B :: L)) :
    Calls Tryz.prog 107 #[.pointer (some ⟨b,0,none⟩),.string ⟨key.toArray⟩,enAgg e v,.string ⟨body.toArray⟩] w fun r w2 => r = .returned (.tuple #[.string ⟨(slSeal B key e body).1.1.toArray⟩,.int .i64 (slSeal B key e body).1.2]) ∧ Sp w0 [] w2 (bxR b (slSeal B key e body).2 :: L):=by
  cases B with
  | real =>
    refine (enSealG (B2:=realR b) e key body (rlSeal key (nonceE e.cnt) (headB e) (fillB body)) E hf T S (rlSealLen _ _ _ _) (fun _ _ w' L' S' => rlSealS key (nonceE e.cnt) (headB e) (fillB body) hk (nonceE_length _) S')).mono ?_
    rintro r w2 ⟨rfl,S2⟩
    rw [show (slSeal .real key e body).1 = enSealV e body (rlSeal key (nonceE e.cnt) (headB e) (fillB body)) from rfl]
    refine ⟨rfl,?_⟩
    have h2 : (slSeal .real key e body).2 = .real:=by unfold slSeal Bx.seal; dsimp only; split <;> rfl
    rw [h2]
    show Sp w0 [] w2 (realR b :: L)
    split at S2 <;> exact S2
  | ideal D M =>
    have hM:=hB.1
    have hD:=hB.2
    refine (enSealG (B2:=idealR b (bxSeal uB M D key (nonceE e.cnt) (headB e) (fillB body)).2.1 (bxSeal uB M D key (nonceE e.cnt) (headB e) (fillB body)).2.2) e key body (bxSeal uB M D key (nonceE e.cnt) (headB e) (fillB body)).1 E hf T S (bxSeal_len hM hD) (fun h1 h2 w' L' S' => bxSealS key (nonceE e.cnt) (headB e) (fillB body) (by omega) (by rw [nonceE_length]; omega) (by rw [fillB_length h2]; have:=bucket_le (textB body).length; omega) (by have:=hM.1; omega) S')).mono ?_
    rintro r w2 ⟨rfl,S2⟩
    rw [show (slSeal (.ideal D M) key e body).1 = enSealV e body (bxSeal uB M D key (nonceE e.cnt) (headB e) (fillB body)).1 from rfl]
    refine ⟨rfl,?_⟩
    by_cases h : enMay e = true ∧ body.length ≤ 16000
    · have h2 : (slSeal (.ideal D M) key e body).2 = .ideal (bxSeal uB M D key (nonceE e.cnt) (headB e) (fillB body)).2.1 (bxSeal uB M D key (nonceE e.cnt) (headB e) (fillB body)).2.2:=by unfold slSeal Bx.seal; dsimp only; rw [if_pos h]
      rw [h2]
      rw [if_pos h] at S2
      exact S2
    · have h2 : (slSeal (.ideal D M) key e body).2 = .ideal D M:=by unfold slSeal Bx.seal; dsimp only; rw [if_neg h]
      rw [h2]
      rw [if_neg h] at S2
      exact S2
theorem slOpenedS (B : Bx) (key s : Bs) (hs : s.length ≤ 1000000) (hk : key.length = 32) (hB : B.ok) (E : Env w0) (S : Sp w0 [] w (bxR b B :: L)) :
    Calls Tryz.prog 76 #[.pointer (some ⟨b,0,none⟩),.string ⟨key.toArray⟩,.string ⟨s.toArray⟩] w fun r w2 => ∃ v,r = .returned (.tuple #[enAgg (slOpened B key s).1 v,.string ⟨(slOpened B key s).2.1.toArray⟩,.int .i64 (slOpened B key s).2.2]) ∧ Sp w0 [] w2 (tosR v (slOpened B key s).1.rcs :: bxR b B :: L):=by
  cases B with
  | real => exact enOpenG (rlOpen key) key s hs E S (fun n d t w' L' hn hd ht S' => rlOpenS key n d t hk hn ht S') (fun n d t => rlOpenLen key n d t)
  | ideal D M => exact enOpenG (bxOpen uB M key) key s hs E S (fun n d t w' L' h1 h2 h3 S' => bxOpenS key n d t (by omega) (by omega) h3 S') (fun n d t => bxOpen_len hB.1)
end
section
variable {w0 w : World} {L : List Res} {P : SlPt} {c : Sc} {Q : Sq}
theorem slOpenS (id : Nat) (k : Nat) (hi : id < 18446744073709551616) (hm : c.master.length = 32) (hR : RowsFit Q.rows) (hD : Q.D.Roomy k) (hk : k ≤ 1000000) (hB : Q.B.ok) (E : Env w0) (S : Sp w0 [] w (slPs P c Q L)) :
    Calls Tryz.prog 44 #[.pointer (some ⟨P.s,0,none⟩),.int .u64 id] w fun e w2 => ∃ v,e = .returned (.tuple #[enAgg (Q.open c.master id).1 v,.string ⟨(Q.open c.master id).2.1.toArray⟩,.bool (Q.open c.master id).2.2]) ∧ Sp w0 [] w2 (tosR v (Q.open c.master id).1.rcs :: slPs P c Q L):=by
  have hrf:=rowAt_fit hR id
  have hdl:=hrf.1
  have hfl:=slFile_len hR id hi
  have hlen:=hD.file (slFile Q.rows id)
  have hlk:=fun (w' : World) (K : List Res) (S' : Sp w0 [] w' (slPs P c Q K)) => S'.pull1.mapN.look (t:=88) keyedN Tryz.underlying88 (zeroRow3 _) (keyNum id hi)
  have hr : ((Q.rows.get id).map Row3.agg).getD (Row3.agg ⟨[],0,0⟩) = (rowAt Q.rows id).agg:=by unfold rowAt; cases Q.rows.get id <;> rfl
  rw [hr] at hlk
  have HF:=Lib.hid (fun (w' : World) (K : List Res) (S' : Sp w0 [] w' (slPs P c Q K)) => slFileS id hi hR E S')
  have HRD:=Lib.hid (fun (w' : World) (K : List Res) (S' : Sp w0 [] w' (diskR P.d Q.D :: K)) => readS (slFile Q.rows id) S' (by unfold maxLen; omega))
  have HK:=Lib.hid (fun (w' : World) (K : List Res) (S' : Sp w0 [] w' K) => boxKeyS c.master (rowAt Q.rows id).dom (rowAt Q.rows id).ep hm hdl S')
  have HKL:=Lib.hid (keyB_length c.master (rowAt Q.rows id).dom (rowAt Q.rows id).ep)
  have HLV:=Lib.hid (fun (w' : World) (K : List Res) (S' : Sp w0 [] w' (ringR P.r P.d Q.ring :: K)) => ringLiveS (rowAt Q.rows id).dom (rowAt Q.rows id).ep S' (by unfold maxLen; omega) (by have:=hrf.2.1; omega))
  have HV : Hid (Q.open c.master id = if Q.D.now.has (slFile Q.rows id) = true then
    (if slRight Q.ring id (rowAt Q.rows id) (slOpened Q.B (keyB c.master (rowAt Q.rows id).dom (rowAt Q.rows id).ep) ((Q.D.now.get (slFile Q.rows id)).getD [])) = true then
        ((slOpened Q.B (keyB c.master (rowAt Q.rows id).dom (rowAt Q.rows id).ep) ((Q.D.now.get (slFile Q.rows id)).getD [])).1,(slOpened Q.B (keyB c.master (rowAt Q.rows id).dom (rowAt Q.rows id).ep) ((Q.D.now.get (slFile Q.rows id)).getD [])).2.1,true)
      else (En.zero,[],false)) else (En.zero,[],false)):=by
    unfold Hid Sq.open
    by_cases h : Q.D.now.has (slFile Q.rows id) = true
    · rw [if_pos h,if_pos h,if_pos hdl]
    · rw [if_neg h,if_neg h]
  unfold slRight at HV
  unfold ringLive at HV
  have HB:=Lib.hid hB
  have HE:=Lib.hid E
  have HTL : Hid (((Q.D.now.get (slFile Q.rows id)).getD []).length ≤ 1000000):=by unfold Hid; omega
  generalize (decide (0 < (rowAt Q.rows id).ep) && (decide ((rowAt Q.rows id).ep = (ringState Q.ring (rowAt Q.rows id).dom).now) || decide ((rowAt Q.rows id).ep = (ringState Q.ring (rowAt Q.rows id).dom).old))) = lv at *
  generalize Q.open c.master id = qo at *
  generalize keyB c.master (rowAt Q.rows id).dom (rowAt Q.rows id).ep = key at *
  generalize (Q.D.now.get (slFile Q.rows id)).getD [] = txt at *
  generalize slFile Q.rows id = fl at *
  generalize rowAt Q.rows id = rr at *
  obtain ⟨d,n,ct⟩:=rr
  unfold Row3.agg at hlk
  dsimp only at *
  have HLK:=Lib.hid hlk
  have HS0:=Lib.hid (S.box #[.int .u64 0,.string ⟨#[]⟩,.int .u64 0,.int .u64 0,.string ⟨#[]⟩,.string ⟨#[]⟩,.slice none 0 0,.int .u64 0,.int .u64 0,.int .i64 0] 40)
  clear S hrf hdl hfl hlen hr hD hR hB hi hlk
  go_enter Tryz.func44,Tryz.ntmps44
  go_upto_region 1 with (fail)
  generalize w.alloc _ = wA at *
  generalize w.heap.size = g4 at *
  have HSA : Hid (Sp w0 [] wA (slPs P c Q (boxR g4 #[.int .u64 0,.string ⟨#[]⟩,.int .u64 0,.int .u64 0,.string ⟨#[]⟩,.string ⟨#[]⟩,.slice none 0 0,.int .u64 0,.int .u64 0,.int .i64 0] 40 :: L))):=by
    have h:=HS0.out
    unfold slPs at h ⊢
    exact (Sp.pick [_,_,_,_,_,_,_] [1,2,3,4,5,6,0] (by decide) (h))
  have hlk:=HLK.out _ _ HSA.out
  have c0:=HSA.out.cell
  unfold slCells at c0
  have HS1:=Lib.hid (HSA.out.box #[.string ⟨d.toArray⟩,.int .u64 n,.int .u64 ct] 107)
  clear HS0 HSA HLK
  go_upto_region 2 with (fail)
  clear hlk c0
  generalize wA.alloc _ = w1 at *
  generalize wA.heap.size = g7 at *
  have HS2 : Hid (Sp w0 [] w1 (slPs P c Q (boxR g7 #[.string ⟨d.toArray⟩,.int .u64 n,.int .u64 ct] 107 :: boxR g4 #[.int .u64 0,.string ⟨#[]⟩,.int .u64 0,.int .u64 0,.string ⟨#[]⟩,.string ⟨#[]⟩,.slice none 0 0,.int .u64 0,.int .u64 0,.int .i64 0] 40 :: L))):=by
    have h:=HS1.out
    unfold slPs at h ⊢
    exact (Sp.pick [_,_,_,_,_,_,_] [1,2,3,4,5,6,0] (by decide) (h))
  clear HS1
  refine wp_region_chainG [0,1,2,3,4,5,6,7,8,9,10,11,12] (fun c => c == 6 || c == 7) (fun c => false) (T:=fun wx => wx.cell? ⟨P.s,0,none⟩ = some (.pointer (some ⟨P.d,0,none⟩))) (S:=fun wx => Sp w0 [] wx (slPs P c Q (boxR g7 #[.string ⟨d.toArray⟩,.int .u64 n,.int .u64 ct] 107 :: boxR g4 #[.int .u64 0,.string ⟨#[]⟩,.int .u64 0,.int .u64 0,.string ⟨#[]⟩,.string ⟨#[]⟩,.slice none 0 0,.int .u64 0,.int .u64 0,.int .i64 0] 40 :: L))) (by kernel_rfl) (by kernel_rfl) (by kernel_rfl) HS2.out.drew (fun x h => h.cell 0) ?_
  repeat
    refine Exists.intro _ (And.intro rfl (Or.inl (Exists.intro ?_ (And.intro (fun wS hS K hK => ?_) (And.intro ?_ ?_)))))
    rotate_left 1
    · have t0:=hS
      first
        | (refine if_unwanted rfl ?_; simp only [Act.put,List.setIfInBounds_toArray,List.set_cons_zero,List.set_cons_succ]; exact hK.out)
        | (refine if_wanted rfl ?_; go_simp; exact hK.out)
    · rfl
  refine ChainG.one rfl rfl rfl (fun wS hS R hR => ?_)
  go_simp
  go_at_call 48
  refine (HF.out _ _ hS).mono ?_
  rintro e w7 ⟨rfl,S7⟩
  refine hR.out _ _ rfl (fun wx => wx.cell? ⟨P.s,0,none⟩ = some (.pointer (some ⟨P.d,0,none⟩))) (fun wx => Sp w0 [] wx (slPs P c Q (boxR g7 #[.string ⟨d.toArray⟩,.int .u64 n,.int .u64 ct] 107 :: boxR g4 #[.int .u64 0,.string ⟨#[]⟩,.int .u64 0,.int .u64 0,.string ⟨#[]⟩,.string ⟨#[]⟩,.slice none 0 0,.int .u64 0,.int .u64 0,.int .i64 0] 40 :: L))) S7 (fun x h => h.cell 0) (fun _ h => h) ?_
  clear hR hS S7
  repeat
    refine Exists.intro _ (And.intro rfl (Or.inl (Exists.intro ?_ (And.intro (fun wS hS K hK => ?_) (And.intro ?_ ?_)))))
    rotate_left 1
    · have t0:=hS
      first
        | (refine if_unwanted rfl ?_; simp only [Act.put,List.setIfInBounds_toArray,List.set_cons_zero,List.set_cons_succ]; exact hK.out)
        | (refine if_wanted rfl ?_; go_simp; exact hK.out)
    · rfl
  refine ChainG.one rfl rfl rfl (fun wS hS R hR => ?_)
  go_simp
  go_at_call 59
  refine (HRD.out _ _ hS.pull2).mono ?_
  rintro e w7 ⟨rfl,rfl⟩
  refine hR.out _ _ rfl (fun wx => wx.cell? ⟨P.s,0,none⟩ = some (.pointer (some ⟨P.d,0,none⟩))) (fun wx => Sp w0 [] wx (slPs P c Q (boxR g7 #[.string ⟨d.toArray⟩,.int .u64 n,.int .u64 ct] 107 :: boxR g4 #[.int .u64 0,.string ⟨#[]⟩,.int .u64 0,.int .u64 0,.string ⟨#[]⟩,.string ⟨#[]⟩,.slice none 0 0,.int .u64 0,.int .u64 0,.int .i64 0] 40 :: L))) hS (fun x h => h.cell 0) (fun _ h => h) ?_
  clear hR hS
  repeat
    refine Exists.intro _ (And.intro rfl (Or.inl (Exists.intro ?_ (And.intro (fun wS hS K hK => ?_) (And.intro ?_ ?_)))))
    rotate_left 1
    · have t0:=hS
      first
        | (refine if_unwanted rfl ?_; simp only [Act.put,List.setIfInBounds_toArray,List.set_cons_zero,List.set_cons_succ]; exact hK.out)
        | (refine if_wanted rfl ?_; go_simp; exact hK.out)
    · rfl
  intro wE hE
  have HSE:=Lib.hid hE
  clear hE
  clear HS2 HRD HF
  unfold slPs at HSE
  by_cases hh : Q.D.now.has fl = true
  · rw [if_pos hh] at HV
    rw [show (if Q.D.now.has fl = true then (0 : Int) else 10) = 0 from if_pos hh]
    clear hh
    go_upto_region 5 with (fail)
    refine wp_region_chainG [0,1,2,3,4,5,6,7,8,9,10,11,12,13] (fun c => c == 8) (fun c => false) (T:=fun wx => wx.cell? ⟨P.s,2,none⟩ = some (.string ⟨c.master.toArray⟩) ∧ (∀ o_1,wx.cell? ⟨g7,o_1,none⟩ = (#[.string ⟨d.toArray⟩,.int .u64 n,.int .u64 ct])[o_1]?)) (S:=fun wx => Sp w0 [] wx (boxR P.s (slCells P c.master Q.last) 90 :: mapNR 34 Row3.agg P.m Q.rows :: diskR P.d Q.D :: bxR P.b Q.B :: ledR P.l P.d c.step c.most Q.led :: ringR P.r P.d Q.ring :: boxR g7 #[.string ⟨d.toArray⟩,.int .u64 n,.int .u64 ct] 107 :: boxR g4 #[.int .u64 0,.string ⟨#[]⟩,.int .u64 0,.int .u64 0,.string ⟨#[]⟩,.string ⟨#[]⟩,.slice none 0 0,.int .u64 0,.int .u64 0,.int .i64 0] 40 :: L)) (by kernel_rfl) (by kernel_rfl) (by kernel_rfl) HSE.out.drew (fun x h => ⟨h.cell 2,((Sp.pick [_,_,_,_,_,_,_] [6] (by decide) (h))).cell⟩) ?_
    repeat
      refine Exists.intro _ (And.intro rfl (Or.inl (Exists.intro ?_ (And.intro (fun wS hS K hK => ?_) (And.intro ?_ ?_)))))
      rotate_left 1
      · obtain ⟨t0,t1⟩:=hS
        first
          | (refine if_unwanted rfl ?_; simp only [Act.put,List.setIfInBounds_toArray,List.set_cons_zero,List.set_cons_succ]; exact hK.out)
          | (refine if_wanted rfl ?_; go_simp; exact hK.out)
      · rfl
    refine ChainG.one rfl rfl rfl (fun wS hS R hR => ?_)
    go_simp
    go_at_call 75
    refine (HK.out _ _ hS).mono ?_
    rintro e w7 ⟨rfl,S7⟩
    refine hR.out _ _ rfl (fun wx => wx.cell? ⟨P.s,2,none⟩ = some (.string ⟨c.master.toArray⟩) ∧ (∀ o_1,wx.cell? ⟨g7,o_1,none⟩ = (#[.string ⟨d.toArray⟩,.int .u64 n,.int .u64 ct])[o_1]?)) (fun wx => Sp w0 [] wx (boxR P.s (slCells P c.master Q.last) 90 :: mapNR 34 Row3.agg P.m Q.rows :: diskR P.d Q.D :: bxR P.b Q.B :: ledR P.l P.d c.step c.most Q.led :: ringR P.r P.d Q.ring :: boxR g7 #[.string ⟨d.toArray⟩,.int .u64 n,.int .u64 ct] 107 :: boxR g4 #[.int .u64 0,.string ⟨#[]⟩,.int .u64 0,.int .u64 0,.string ⟨#[]⟩,.string ⟨#[]⟩,.slice none 0 0,.int .u64 0,.int .u64 0,.int .i64 0] 40 :: L)) S7 (fun x h => ⟨h.cell 2,((Sp.pick [_,_,_,_,_,_,_] [6] (by decide) (h))).cell⟩) (fun _ h => h) ?_
    clear hR hS S7
    repeat
      refine Exists.intro _ (And.intro rfl (Or.inl (Exists.intro ?_ (And.intro (fun wS hS K hK => ?_) (And.intro ?_ ?_)))))
      rotate_left 1
      · obtain ⟨t0,t1⟩:=hS
        first
          | (refine if_unwanted rfl ?_; simp only [Act.put,List.setIfInBounds_toArray,List.set_cons_zero,List.set_cons_succ]; exact hK.out)
          | (refine if_wanted rfl ?_; go_simp; exact hK.out)
      · rfl
    intro wE hE
    have HSE:=Lib.hid hE
    clear hE
    have c1:=HSE.out.cell
    unfold slCells at c1
    clear HK
    go_wp2_with fail
    have HZ:=(Sp.pick [_,_,_,_,_,_,_,_] [3,0,1,2,4,5,6,7] (by decide) (HSE.out))
    refine (slOpenedS Q.B key txt HTL.out HKL.out HB.out HE.out HZ).mono ?_
    rintro r w2 ⟨v,rfl,S⟩
    clear HZ c1
    generalize slOpened Q.B key txt = q at *
    obtain ⟨⟨xi,xd,xe,xc,xf,xr,xb,xn,xt⟩,body,f⟩:=q
    dsimp only at *
    obtain ⟨va,vc,rfl⟩:=S.tosAt.form
    unfold enAgg
    dsimp only
    have S5:=S.box (enCells ⟨xi,xd,xe,xc,xf,xr,xb,xn,xt⟩ (.slice va xr.length vc)) 40
    unfold enCells at S5
    dsimp only at S5
    have HS5:=Lib.hid S5
    clear S S5 HSE
    go_upto_region 9 with (fail)
    generalize w2.alloc _ = w3 at *
    generalize w2.heap.size = g11 at *
    have HS6 : Hid (Sp w0 [] w3 (boxR g11 #[.int .u64 xi,.string ⟨xd.toArray⟩,.int .u64 xe,.int .u64 xc,.string ⟨xf.1.toArray⟩,.string ⟨xf.2.toArray⟩,.slice va xr.length vc,.int .u64 xb,.int .u64 xn,.int .i64 xt] 40 :: boxR g7 #[.string ⟨d.toArray⟩,.int .u64 n,.int .u64 ct] 107 :: boxR P.s (slCells P c.master Q.last) 90 :: ringR P.r P.d Q.ring :: tosR (.slice va xr.length vc) xr :: bxR P.b Q.B :: mapNR 34 Row3.agg P.m Q.rows :: diskR P.d Q.D :: ledR P.l P.d c.step c.most Q.led :: boxR g4 #[.int .u64 0,.string ⟨#[]⟩,.int .u64 0,.int .u64 0,.string ⟨#[]⟩,.string ⟨#[]⟩,.slice none 0 0,.int .u64 0,.int .u64 0,.int .i64 0] 40 :: L)):=(Sp.pick [_,_,_,_,_,_,_,_,_,_] [0,8,3,7,1,2,4,5,6,9] (by decide) (HS5.out))
    clear HS5
    have HL2 : Hid (∀ (w' : World) (A B C : Res) (K : List Res),Sp w0 [] w' (A :: B :: C :: ringR P.r P.d Q.ring :: K) → Calls Tryz.prog 77 #[.pointer (some ⟨P.r,0,none⟩),.string ⟨d.toArray⟩,.int .u64 n] w' fun e w2 => e = .returned (.bool lv) ∧ Sp w0 [] w2 (A :: B :: C :: ringR P.r P.d Q.ring :: K)):=fun w' A B C K S' => (HLV.out _ _ S'.pull3).mono fun e w2 ⟨h1,h2⟩ => ⟨h1,(Sp.pick [_,_,_,_] [1,2,3,0] (by decide) (h2))⟩
    clear HLV
    by_cases h0 : f = 0
    rotate_left 1
    · have HW : Hid (qo = (En.zero,[],false)):=HV.out.trans (if_neg (by simp [h0]))
      have hb : (f == 0) = false:=by simp; omega
      clear HV h0
      refine wp_region_text (S:=fun wx => Sp w0 [] wx (boxR g11 #[.int .u64 xi,.string ⟨xd.toArray⟩,.int .u64 xe,.int .u64 xc,.string ⟨xf.1.toArray⟩,.string ⟨xf.2.toArray⟩,.slice va xr.length vc,.int .u64 xb,.int .u64 xn,.int .i64 xt] 40 :: boxR g7 #[.string ⟨d.toArray⟩,.int .u64 n,.int .u64 ct] 107 :: boxR P.s (slCells P c.master Q.last) 90 :: ringR P.r P.d Q.ring :: tosR (.slice va xr.length vc) xr :: bxR P.b Q.B :: mapNR 34 Row3.agg P.m Q.rows :: diskR P.d Q.D :: ledR P.l P.d c.step c.most Q.led :: boxR g4 #[.int .u64 0,.string ⟨#[]⟩,.int .u64 0,.int .u64 0,.string ⟨#[]⟩,.string ⟨#[]⟩,.slice none 0 0,.int .u64 0,.int .u64 0,.int .i64 0] 40 :: L) ∧ (∀ o,wx.cell? ⟨g11,o,none⟩ = (#[.int .u64 xi,.string ⟨xd.toArray⟩,.int .u64 xe,.int .u64 xc,.string ⟨xf.1.toArray⟩,.string ⟨xf.2.toArray⟩,.slice va xr.length vc,.int .u64 xb,.int .u64 xn,.int .i64 xt])[o]?) ∧ (∀ o,wx.cell? ⟨g7,o,none⟩ = (#[.string ⟨d.toArray⟩,.int .u64 n,.int .u64 ct])[o]?) ∧ (∀ o,wx.cell? ⟨P.s,o,none⟩ = (#[.pointer (some ⟨P.d,0,none⟩),.pointer (some ⟨P.b,0,none⟩),.string ⟨c.master.toArray⟩,.pointer (some ⟨P.l,0,none⟩),.pointer (some ⟨P.r,0,none⟩),.map (some P.m),.int .u64 Q.last])[o]?)) (by kernel_rfl) (by kernel_rfl) ⟨(HS6.out).drew,(Sp.pick [_,_,_,_,_,_,_,_,_,_] [0] (by decide) ((HS6.out).drew)).cell,(Sp.pick [_,_,_,_,_,_,_,_,_,_] [1] (by decide) ((HS6.out).drew)).cell,(Sp.pick [_,_,_,_,_,_,_,_,_,_] [2] (by decide) ((HS6.out).drew)).cell⟩ ?_
      repeat
        refine Exists.intro ?_ (And.intro (fun wS hS K hK => ?_) (And.intro ?_ ?_))
        rotate_left 1
        · obtain ⟨hS1,hS2,hS3,hS4⟩:=hS
          first
            | (refine if_unwanted rfl ?_; simp only [Act.put,List.setIfInBounds_toArray,List.set_cons_zero,List.set_cons_succ]; exact hK.out _ ⟨hS1,hS2,hS3,hS4⟩)
            | (refine if_wanted rfl ?_; go_simp; exact hK.out _ ⟨hS1,hS2,hS3,hS4⟩)
            | (refine if_wanted rfl ?_; go_simp; go_at_call 77; refine (HL2.out _ _ _ _ _ hS1).mono ?_; rintro e w12 ⟨rfl,S12⟩; exact hK.out _ ⟨S12,(Sp.pick [_,_,_,_,_,_,_,_,_,_] [0] (by decide) (S12)).cell,(Sp.pick [_,_,_,_,_,_,_,_,_,_] [1] (by decide) (S12)).cell,(Sp.pick [_,_,_,_,_,_,_,_,_,_] [2] (by decide) (S12)).cell⟩)
        · rfl
      intro wE hE
      have HSE:=Lib.hid hE.1
      clear hE
      clear HS6 HL2
      have S6:=(Sp.pick [_,_,_,_,_,_,_,_,_,_] [9,2,6,7,5,8,3] (by decide) (HSE.out))
      have d0:=S6.cell
      have f0:=S6.free
      have HSQ:=Lib.hid (((((((((((S6.set (o:=0) (.int .u64 0)).set (o:=1) (.string ⟨#[]⟩)).set (o:=2) (.int .u64 0)).set (o:=3) (.int .u64 0)).set (o:=4) (.string ⟨#[]⟩)).set (o:=5) (.string ⟨#[]⟩)).set (o:=6) (.slice none 0 0)).set (o:=7) (.int .u64 0)).set (o:=8) (.int .u64 0)).set (o:=9) (.int .i64 0)).drop.tosNil)
      clear S6 HSE
      go_wp2
      rw [HW.out]
      exact bodyPost_ret (v:=.tuple #[.agg #[.int .u64 0,.string ⟨#[]⟩,.int .u64 0,.int .u64 0,.string ⟨#[]⟩,.string ⟨#[]⟩,.slice none 0 0,.int .u64 0,.int .u64 0,.int .i64 0],.string ⟨#[]⟩,.bool false]) (by simp [results,Tryz.results44,go_sem,d0]) rfl ⟨.slice none 0 0,rfl,HSQ.out⟩
    have h0x:=h0.symm
    clear h0
    subst h0x
    by_cases h1 : xi = id
    rotate_left 1
    · have HW : Hid (qo = (En.zero,[],false)):=HV.out.trans (if_neg (by simp [h1]))
      have hb : ((xi : Int) == (id : Int)) = false:=by simp; omega
      clear HV h1
      refine wp_region_text (S:=fun wx => Sp w0 [] wx (boxR g11 #[.int .u64 xi,.string ⟨xd.toArray⟩,.int .u64 xe,.int .u64 xc,.string ⟨xf.1.toArray⟩,.string ⟨xf.2.toArray⟩,.slice va xr.length vc,.int .u64 xb,.int .u64 xn,.int .i64 xt] 40 :: boxR g7 #[.string ⟨d.toArray⟩,.int .u64 n,.int .u64 ct] 107 :: boxR P.s (slCells P c.master Q.last) 90 :: ringR P.r P.d Q.ring :: tosR (.slice va xr.length vc) xr :: bxR P.b Q.B :: mapNR 34 Row3.agg P.m Q.rows :: diskR P.d Q.D :: ledR P.l P.d c.step c.most Q.led :: boxR g4 #[.int .u64 0,.string ⟨#[]⟩,.int .u64 0,.int .u64 0,.string ⟨#[]⟩,.string ⟨#[]⟩,.slice none 0 0,.int .u64 0,.int .u64 0,.int .i64 0] 40 :: L) ∧ (∀ o,wx.cell? ⟨g11,o,none⟩ = (#[.int .u64 xi,.string ⟨xd.toArray⟩,.int .u64 xe,.int .u64 xc,.string ⟨xf.1.toArray⟩,.string ⟨xf.2.toArray⟩,.slice va xr.length vc,.int .u64 xb,.int .u64 xn,.int .i64 xt])[o]?) ∧ (∀ o,wx.cell? ⟨g7,o,none⟩ = (#[.string ⟨d.toArray⟩,.int .u64 n,.int .u64 ct])[o]?) ∧ (∀ o,wx.cell? ⟨P.s,o,none⟩ = (#[.pointer (some ⟨P.d,0,none⟩),.pointer (some ⟨P.b,0,none⟩),.string ⟨c.master.toArray⟩,.pointer (some ⟨P.l,0,none⟩),.pointer (some ⟨P.r,0,none⟩),.map (some P.m),.int .u64 Q.last])[o]?)) (by kernel_rfl) (by kernel_rfl) ⟨(HS6.out).drew,(Sp.pick [_,_,_,_,_,_,_,_,_,_] [0] (by decide) ((HS6.out).drew)).cell,(Sp.pick [_,_,_,_,_,_,_,_,_,_] [1] (by decide) ((HS6.out).drew)).cell,(Sp.pick [_,_,_,_,_,_,_,_,_,_] [2] (by decide) ((HS6.out).drew)).cell⟩ ?_
      repeat
        refine Exists.intro ?_ (And.intro (fun wS hS K hK => ?_) (And.intro ?_ ?_))
        rotate_left 1
        · obtain ⟨hS1,hS2,hS3,hS4⟩:=hS
          first
            | (refine if_unwanted rfl ?_; simp only [Act.put,List.setIfInBounds_toArray,List.set_cons_zero,List.set_cons_succ]; exact hK.out _ ⟨hS1,hS2,hS3,hS4⟩)
            | (refine if_wanted rfl ?_; go_simp; exact hK.out _ ⟨hS1,hS2,hS3,hS4⟩)
            | (refine if_wanted rfl ?_; go_simp; go_at_call 77; refine (HL2.out _ _ _ _ _ hS1).mono ?_; rintro e w12 ⟨rfl,S12⟩; exact hK.out _ ⟨S12,(Sp.pick [_,_,_,_,_,_,_,_,_,_] [0] (by decide) (S12)).cell,(Sp.pick [_,_,_,_,_,_,_,_,_,_] [1] (by decide) (S12)).cell,(Sp.pick [_,_,_,_,_,_,_,_,_,_] [2] (by decide) (S12)).cell⟩)
        · rfl
      intro wE hE
      have HSE:=Lib.hid hE.1
      clear hE
      clear HS6 HL2
      have S6:=(Sp.pick [_,_,_,_,_,_,_,_,_,_] [9,2,6,7,5,8,3] (by decide) (HSE.out))
      have d0:=S6.cell
      have f0:=S6.free
      have HSQ:=Lib.hid (((((((((((S6.set (o:=0) (.int .u64 0)).set (o:=1) (.string ⟨#[]⟩)).set (o:=2) (.int .u64 0)).set (o:=3) (.int .u64 0)).set (o:=4) (.string ⟨#[]⟩)).set (o:=5) (.string ⟨#[]⟩)).set (o:=6) (.slice none 0 0)).set (o:=7) (.int .u64 0)).set (o:=8) (.int .u64 0)).set (o:=9) (.int .i64 0)).drop.tosNil)
      clear S6 HSE
      go_wp2
      rw [HW.out]
      exact bodyPost_ret (v:=.tuple #[.agg #[.int .u64 0,.string ⟨#[]⟩,.int .u64 0,.int .u64 0,.string ⟨#[]⟩,.string ⟨#[]⟩,.slice none 0 0,.int .u64 0,.int .u64 0,.int .i64 0],.string ⟨#[]⟩,.bool false]) (by simp [results,Tryz.results44,go_sem,d0]) rfl ⟨.slice none 0 0,rfl,HSQ.out⟩
    have h1x:=h1.symm
    clear h1
    subst h1x
    by_cases h2 : xd = d
    rotate_left 1
    · have HW : Hid (qo = (En.zero,[],false)):=HV.out.trans (if_neg (by simp [h2]))
      have hb : (xd == d) = false:=by simpa using h2
      clear HV h2
      refine wp_region_text (S:=fun wx => Sp w0 [] wx (boxR g11 #[.int .u64 id,.string ⟨xd.toArray⟩,.int .u64 xe,.int .u64 xc,.string ⟨xf.1.toArray⟩,.string ⟨xf.2.toArray⟩,.slice va xr.length vc,.int .u64 xb,.int .u64 xn,.int .i64 xt] 40 :: boxR g7 #[.string ⟨d.toArray⟩,.int .u64 n,.int .u64 ct] 107 :: boxR P.s (slCells P c.master Q.last) 90 :: ringR P.r P.d Q.ring :: tosR (.slice va xr.length vc) xr :: bxR P.b Q.B :: mapNR 34 Row3.agg P.m Q.rows :: diskR P.d Q.D :: ledR P.l P.d c.step c.most Q.led :: boxR g4 #[.int .u64 0,.string ⟨#[]⟩,.int .u64 0,.int .u64 0,.string ⟨#[]⟩,.string ⟨#[]⟩,.slice none 0 0,.int .u64 0,.int .u64 0,.int .i64 0] 40 :: L) ∧ (∀ o,wx.cell? ⟨g11,o,none⟩ = (#[.int .u64 id,.string ⟨xd.toArray⟩,.int .u64 xe,.int .u64 xc,.string ⟨xf.1.toArray⟩,.string ⟨xf.2.toArray⟩,.slice va xr.length vc,.int .u64 xb,.int .u64 xn,.int .i64 xt])[o]?) ∧ (∀ o,wx.cell? ⟨g7,o,none⟩ = (#[.string ⟨d.toArray⟩,.int .u64 n,.int .u64 ct])[o]?) ∧ (∀ o,wx.cell? ⟨P.s,o,none⟩ = (#[.pointer (some ⟨P.d,0,none⟩),.pointer (some ⟨P.b,0,none⟩),.string ⟨c.master.toArray⟩,.pointer (some ⟨P.l,0,none⟩),.pointer (some ⟨P.r,0,none⟩),.map (some P.m),.int .u64 Q.last])[o]?)) (by kernel_rfl) (by kernel_rfl) ⟨(HS6.out).drew,(Sp.pick [_,_,_,_,_,_,_,_,_,_] [0] (by decide) ((HS6.out).drew)).cell,(Sp.pick [_,_,_,_,_,_,_,_,_,_] [1] (by decide) ((HS6.out).drew)).cell,(Sp.pick [_,_,_,_,_,_,_,_,_,_] [2] (by decide) ((HS6.out).drew)).cell⟩ ?_
      repeat
        refine Exists.intro ?_ (And.intro (fun wS hS K hK => ?_) (And.intro ?_ ?_))
        rotate_left 1
        · obtain ⟨hS1,hS2,hS3,hS4⟩:=hS
          first
            | (refine if_unwanted rfl ?_; simp only [Act.put,List.setIfInBounds_toArray,List.set_cons_zero,List.set_cons_succ]; exact hK.out _ ⟨hS1,hS2,hS3,hS4⟩)
            | (refine if_wanted rfl ?_; go_simp; exact hK.out _ ⟨hS1,hS2,hS3,hS4⟩)
            | (refine if_wanted rfl ?_; go_simp; go_at_call 77; refine (HL2.out _ _ _ _ _ hS1).mono ?_; rintro e w12 ⟨rfl,S12⟩; exact hK.out _ ⟨S12,(Sp.pick [_,_,_,_,_,_,_,_,_,_] [0] (by decide) (S12)).cell,(Sp.pick [_,_,_,_,_,_,_,_,_,_] [1] (by decide) (S12)).cell,(Sp.pick [_,_,_,_,_,_,_,_,_,_] [2] (by decide) (S12)).cell⟩)
        · rfl
      intro wE hE
      have HSE:=Lib.hid hE.1
      clear hE
      clear HS6 HL2
      have S6:=(Sp.pick [_,_,_,_,_,_,_,_,_,_] [9,2,6,7,5,8,3] (by decide) (HSE.out))
      have d0:=S6.cell
      have f0:=S6.free
      have HSQ:=Lib.hid (((((((((((S6.set (o:=0) (.int .u64 0)).set (o:=1) (.string ⟨#[]⟩)).set (o:=2) (.int .u64 0)).set (o:=3) (.int .u64 0)).set (o:=4) (.string ⟨#[]⟩)).set (o:=5) (.string ⟨#[]⟩)).set (o:=6) (.slice none 0 0)).set (o:=7) (.int .u64 0)).set (o:=8) (.int .u64 0)).set (o:=9) (.int .i64 0)).drop.tosNil)
      clear S6 HSE
      go_wp2
      rw [HW.out]
      exact bodyPost_ret (v:=.tuple #[.agg #[.int .u64 0,.string ⟨#[]⟩,.int .u64 0,.int .u64 0,.string ⟨#[]⟩,.string ⟨#[]⟩,.slice none 0 0,.int .u64 0,.int .u64 0,.int .i64 0],.string ⟨#[]⟩,.bool false]) (by simp [results,Tryz.results44,go_sem,d0]) rfl ⟨.slice none 0 0,rfl,HSQ.out⟩
    have h2x:=h2.symm
    clear h2
    subst h2x
    by_cases h3 : xe = n
    rotate_left 1
    · have HW : Hid (qo = (En.zero,[],false)):=HV.out.trans (if_neg (by simp [h3]))
      have hb : ((xe : Int) == (n : Int)) = false:=by simp; omega
      clear HV h3
      refine wp_region_text (S:=fun wx => Sp w0 [] wx (boxR g11 #[.int .u64 id,.string ⟨d.toArray⟩,.int .u64 xe,.int .u64 xc,.string ⟨xf.1.toArray⟩,.string ⟨xf.2.toArray⟩,.slice va xr.length vc,.int .u64 xb,.int .u64 xn,.int .i64 xt] 40 :: boxR g7 #[.string ⟨d.toArray⟩,.int .u64 n,.int .u64 ct] 107 :: boxR P.s (slCells P c.master Q.last) 90 :: ringR P.r P.d Q.ring :: tosR (.slice va xr.length vc) xr :: bxR P.b Q.B :: mapNR 34 Row3.agg P.m Q.rows :: diskR P.d Q.D :: ledR P.l P.d c.step c.most Q.led :: boxR g4 #[.int .u64 0,.string ⟨#[]⟩,.int .u64 0,.int .u64 0,.string ⟨#[]⟩,.string ⟨#[]⟩,.slice none 0 0,.int .u64 0,.int .u64 0,.int .i64 0] 40 :: L) ∧ (∀ o,wx.cell? ⟨g11,o,none⟩ = (#[.int .u64 id,.string ⟨d.toArray⟩,.int .u64 xe,.int .u64 xc,.string ⟨xf.1.toArray⟩,.string ⟨xf.2.toArray⟩,.slice va xr.length vc,.int .u64 xb,.int .u64 xn,.int .i64 xt])[o]?) ∧ (∀ o,wx.cell? ⟨g7,o,none⟩ = (#[.string ⟨d.toArray⟩,.int .u64 n,.int .u64 ct])[o]?) ∧ (∀ o,wx.cell? ⟨P.s,o,none⟩ = (#[.pointer (some ⟨P.d,0,none⟩),.pointer (some ⟨P.b,0,none⟩),.string ⟨c.master.toArray⟩,.pointer (some ⟨P.l,0,none⟩),.pointer (some ⟨P.r,0,none⟩),.map (some P.m),.int .u64 Q.last])[o]?)) (by kernel_rfl) (by kernel_rfl) ⟨(HS6.out).drew,(Sp.pick [_,_,_,_,_,_,_,_,_,_] [0] (by decide) ((HS6.out).drew)).cell,(Sp.pick [_,_,_,_,_,_,_,_,_,_] [1] (by decide) ((HS6.out).drew)).cell,(Sp.pick [_,_,_,_,_,_,_,_,_,_] [2] (by decide) ((HS6.out).drew)).cell⟩ ?_
      repeat
        refine Exists.intro ?_ (And.intro (fun wS hS K hK => ?_) (And.intro ?_ ?_))
        rotate_left 1
        · obtain ⟨hS1,hS2,hS3,hS4⟩:=hS
          first
            | (refine if_unwanted rfl ?_; simp only [Act.put,List.setIfInBounds_toArray,List.set_cons_zero,List.set_cons_succ]; exact hK.out _ ⟨hS1,hS2,hS3,hS4⟩)
            | (refine if_wanted rfl ?_; go_simp; exact hK.out _ ⟨hS1,hS2,hS3,hS4⟩)
            | (refine if_wanted rfl ?_; go_simp; go_at_call 77; refine (HL2.out _ _ _ _ _ hS1).mono ?_; rintro e w12 ⟨rfl,S12⟩; exact hK.out _ ⟨S12,(Sp.pick [_,_,_,_,_,_,_,_,_,_] [0] (by decide) (S12)).cell,(Sp.pick [_,_,_,_,_,_,_,_,_,_] [1] (by decide) (S12)).cell,(Sp.pick [_,_,_,_,_,_,_,_,_,_] [2] (by decide) (S12)).cell⟩)
        · rfl
      intro wE hE
      have HSE:=Lib.hid hE.1
      clear hE
      clear HS6 HL2
      have S6:=(Sp.pick [_,_,_,_,_,_,_,_,_,_] [9,2,6,7,5,8,3] (by decide) (HSE.out))
      have d0:=S6.cell
      have f0:=S6.free
      have HSQ:=Lib.hid (((((((((((S6.set (o:=0) (.int .u64 0)).set (o:=1) (.string ⟨#[]⟩)).set (o:=2) (.int .u64 0)).set (o:=3) (.int .u64 0)).set (o:=4) (.string ⟨#[]⟩)).set (o:=5) (.string ⟨#[]⟩)).set (o:=6) (.slice none 0 0)).set (o:=7) (.int .u64 0)).set (o:=8) (.int .u64 0)).set (o:=9) (.int .i64 0)).drop.tosNil)
      clear S6 HSE
      go_wp2
      rw [HW.out]
      exact bodyPost_ret (v:=.tuple #[.agg #[.int .u64 0,.string ⟨#[]⟩,.int .u64 0,.int .u64 0,.string ⟨#[]⟩,.string ⟨#[]⟩,.slice none 0 0,.int .u64 0,.int .u64 0,.int .i64 0],.string ⟨#[]⟩,.bool false]) (by simp [results,Tryz.results44,go_sem,d0]) rfl ⟨.slice none 0 0,rfl,HSQ.out⟩
    have h3x:=h3.symm
    clear h3
    subst h3x
    by_cases h4 : xc = ct
    rotate_left 1
    · have HW : Hid (qo = (En.zero,[],false)):=HV.out.trans (if_neg (by simp [h4]))
      have hb : ((xc : Int) == (ct : Int)) = false:=by simp; omega
      clear HV h4
      refine wp_region_text (S:=fun wx => Sp w0 [] wx (boxR g11 #[.int .u64 id,.string ⟨d.toArray⟩,.int .u64 n,.int .u64 xc,.string ⟨xf.1.toArray⟩,.string ⟨xf.2.toArray⟩,.slice va xr.length vc,.int .u64 xb,.int .u64 xn,.int .i64 xt] 40 :: boxR g7 #[.string ⟨d.toArray⟩,.int .u64 n,.int .u64 ct] 107 :: boxR P.s (slCells P c.master Q.last) 90 :: ringR P.r P.d Q.ring :: tosR (.slice va xr.length vc) xr :: bxR P.b Q.B :: mapNR 34 Row3.agg P.m Q.rows :: diskR P.d Q.D :: ledR P.l P.d c.step c.most Q.led :: boxR g4 #[.int .u64 0,.string ⟨#[]⟩,.int .u64 0,.int .u64 0,.string ⟨#[]⟩,.string ⟨#[]⟩,.slice none 0 0,.int .u64 0,.int .u64 0,.int .i64 0] 40 :: L) ∧ (∀ o,wx.cell? ⟨g11,o,none⟩ = (#[.int .u64 id,.string ⟨d.toArray⟩,.int .u64 n,.int .u64 xc,.string ⟨xf.1.toArray⟩,.string ⟨xf.2.toArray⟩,.slice va xr.length vc,.int .u64 xb,.int .u64 xn,.int .i64 xt])[o]?) ∧ (∀ o,wx.cell? ⟨g7,o,none⟩ = (#[.string ⟨d.toArray⟩,.int .u64 n,.int .u64 ct])[o]?) ∧ (∀ o,wx.cell? ⟨P.s,o,none⟩ = (#[.pointer (some ⟨P.d,0,none⟩),.pointer (some ⟨P.b,0,none⟩),.string ⟨c.master.toArray⟩,.pointer (some ⟨P.l,0,none⟩),.pointer (some ⟨P.r,0,none⟩),.map (some P.m),.int .u64 Q.last])[o]?)) (by kernel_rfl) (by kernel_rfl) ⟨(HS6.out).drew,(Sp.pick [_,_,_,_,_,_,_,_,_,_] [0] (by decide) ((HS6.out).drew)).cell,(Sp.pick [_,_,_,_,_,_,_,_,_,_] [1] (by decide) ((HS6.out).drew)).cell,(Sp.pick [_,_,_,_,_,_,_,_,_,_] [2] (by decide) ((HS6.out).drew)).cell⟩ ?_
      repeat
        refine Exists.intro ?_ (And.intro (fun wS hS K hK => ?_) (And.intro ?_ ?_))
        rotate_left 1
        · obtain ⟨hS1,hS2,hS3,hS4⟩:=hS
          first
            | (refine if_unwanted rfl ?_; simp only [Act.put,List.setIfInBounds_toArray,List.set_cons_zero,List.set_cons_succ]; exact hK.out _ ⟨hS1,hS2,hS3,hS4⟩)
            | (refine if_wanted rfl ?_; go_simp; exact hK.out _ ⟨hS1,hS2,hS3,hS4⟩)
            | (refine if_wanted rfl ?_; go_simp; go_at_call 77; refine (HL2.out _ _ _ _ _ hS1).mono ?_; rintro e w12 ⟨rfl,S12⟩; exact hK.out _ ⟨S12,(Sp.pick [_,_,_,_,_,_,_,_,_,_] [0] (by decide) (S12)).cell,(Sp.pick [_,_,_,_,_,_,_,_,_,_] [1] (by decide) (S12)).cell,(Sp.pick [_,_,_,_,_,_,_,_,_,_] [2] (by decide) (S12)).cell⟩)
        · rfl
      intro wE hE
      have HSE:=Lib.hid hE.1
      clear hE
      clear HS6 HL2
      have S6:=(Sp.pick [_,_,_,_,_,_,_,_,_,_] [9,2,6,7,5,8,3] (by decide) (HSE.out))
      have d0:=S6.cell
      have f0:=S6.free
      have HSQ:=Lib.hid (((((((((((S6.set (o:=0) (.int .u64 0)).set (o:=1) (.string ⟨#[]⟩)).set (o:=2) (.int .u64 0)).set (o:=3) (.int .u64 0)).set (o:=4) (.string ⟨#[]⟩)).set (o:=5) (.string ⟨#[]⟩)).set (o:=6) (.slice none 0 0)).set (o:=7) (.int .u64 0)).set (o:=8) (.int .u64 0)).set (o:=9) (.int .i64 0)).drop.tosNil)
      clear S6 HSE
      go_wp2
      rw [HW.out]
      exact bodyPost_ret (v:=.tuple #[.agg #[.int .u64 0,.string ⟨#[]⟩,.int .u64 0,.int .u64 0,.string ⟨#[]⟩,.string ⟨#[]⟩,.slice none 0 0,.int .u64 0,.int .u64 0,.int .i64 0],.string ⟨#[]⟩,.bool false]) (by simp [results,Tryz.results44,go_sem,d0]) rfl ⟨.slice none 0 0,rfl,HSQ.out⟩
    have h4x:=h4.symm
    clear h4
    subst h4x
    by_cases h5 : lv = true
    rotate_left 1
    · have HW : Hid (qo = (En.zero,[],false)):=HV.out.trans (if_neg (by simp [h5]))
      obtain rfl : lv = false:=by simpa using h5
      clear HV h5
      refine wp_region_text (S:=fun wx => Sp w0 [] wx (boxR g11 #[.int .u64 id,.string ⟨d.toArray⟩,.int .u64 n,.int .u64 ct,.string ⟨xf.1.toArray⟩,.string ⟨xf.2.toArray⟩,.slice va xr.length vc,.int .u64 xb,.int .u64 xn,.int .i64 xt] 40 :: boxR g7 #[.string ⟨d.toArray⟩,.int .u64 n,.int .u64 ct] 107 :: boxR P.s (slCells P c.master Q.last) 90 :: ringR P.r P.d Q.ring :: tosR (.slice va xr.length vc) xr :: bxR P.b Q.B :: mapNR 34 Row3.agg P.m Q.rows :: diskR P.d Q.D :: ledR P.l P.d c.step c.most Q.led :: boxR g4 #[.int .u64 0,.string ⟨#[]⟩,.int .u64 0,.int .u64 0,.string ⟨#[]⟩,.string ⟨#[]⟩,.slice none 0 0,.int .u64 0,.int .u64 0,.int .i64 0] 40 :: L) ∧ (∀ o,wx.cell? ⟨g11,o,none⟩ = (#[.int .u64 id,.string ⟨d.toArray⟩,.int .u64 n,.int .u64 ct,.string ⟨xf.1.toArray⟩,.string ⟨xf.2.toArray⟩,.slice va xr.length vc,.int .u64 xb,.int .u64 xn,.int .i64 xt])[o]?) ∧ (∀ o,wx.cell? ⟨g7,o,none⟩ = (#[.string ⟨d.toArray⟩,.int .u64 n,.int .u64 ct])[o]?) ∧ (∀ o,wx.cell? ⟨P.s,o,none⟩ = (#[.pointer (some ⟨P.d,0,none⟩),.pointer (some ⟨P.b,0,none⟩),.string ⟨c.master.toArray⟩,.pointer (some ⟨P.l,0,none⟩),.pointer (some ⟨P.r,0,none⟩),.map (some P.m),.int .u64 Q.last])[o]?)) (by kernel_rfl) (by kernel_rfl) ⟨(HS6.out).drew,(Sp.pick [_,_,_,_,_,_,_,_,_,_] [0] (by decide) ((HS6.out).drew)).cell,(Sp.pick [_,_,_,_,_,_,_,_,_,_] [1] (by decide) ((HS6.out).drew)).cell,(Sp.pick [_,_,_,_,_,_,_,_,_,_] [2] (by decide) ((HS6.out).drew)).cell⟩ ?_
      repeat
        refine Exists.intro ?_ (And.intro (fun wS hS K hK => ?_) (And.intro ?_ ?_))
        rotate_left 1
        · obtain ⟨hS1,hS2,hS3,hS4⟩:=hS
          first
            | (refine if_unwanted rfl ?_; simp only [Act.put,List.setIfInBounds_toArray,List.set_cons_zero,List.set_cons_succ]; exact hK.out _ ⟨hS1,hS2,hS3,hS4⟩)
            | (refine if_wanted rfl ?_; go_simp; exact hK.out _ ⟨hS1,hS2,hS3,hS4⟩)
            | (refine if_wanted rfl ?_; go_simp; go_at_call 77; refine (HL2.out _ _ _ _ _ hS1).mono ?_; rintro e w12 ⟨rfl,S12⟩; exact hK.out _ ⟨S12,(Sp.pick [_,_,_,_,_,_,_,_,_,_] [0] (by decide) (S12)).cell,(Sp.pick [_,_,_,_,_,_,_,_,_,_] [1] (by decide) (S12)).cell,(Sp.pick [_,_,_,_,_,_,_,_,_,_] [2] (by decide) (S12)).cell⟩)
        · rfl
      intro wE hE
      have HSE:=Lib.hid hE.1
      clear hE
      clear HS6 HL2
      have S6:=(Sp.pick [_,_,_,_,_,_,_,_,_,_] [9,2,6,7,5,8,3] (by decide) (HSE.out))
      have d0:=S6.cell
      have f0:=S6.free
      have HSQ:=Lib.hid (((((((((((S6.set (o:=0) (.int .u64 0)).set (o:=1) (.string ⟨#[]⟩)).set (o:=2) (.int .u64 0)).set (o:=3) (.int .u64 0)).set (o:=4) (.string ⟨#[]⟩)).set (o:=5) (.string ⟨#[]⟩)).set (o:=6) (.slice none 0 0)).set (o:=7) (.int .u64 0)).set (o:=8) (.int .u64 0)).set (o:=9) (.int .i64 0)).drop.tosNil)
      clear S6 HSE
      go_wp2
      rw [HW.out]
      exact bodyPost_ret (v:=.tuple #[.agg #[.int .u64 0,.string ⟨#[]⟩,.int .u64 0,.int .u64 0,.string ⟨#[]⟩,.string ⟨#[]⟩,.slice none 0 0,.int .u64 0,.int .u64 0,.int .i64 0],.string ⟨#[]⟩,.bool false]) (by simp [results,Tryz.results44,go_sem,d0]) rfl ⟨.slice none 0 0,rfl,HSQ.out⟩
    have h5x:=h5.symm
    clear h5
    subst h5x
    have HW : Hid (qo = (⟨id,d,n,ct,xf,xr,xb,xn,xt⟩,body,true)):=HV.out.trans (if_pos (by simp))
    clear HV
    refine wp_region_text (S:=fun wx => Sp w0 [] wx (boxR g11 #[.int .u64 id,.string ⟨d.toArray⟩,.int .u64 n,.int .u64 ct,.string ⟨xf.1.toArray⟩,.string ⟨xf.2.toArray⟩,.slice va xr.length vc,.int .u64 xb,.int .u64 xn,.int .i64 xt] 40 :: boxR g7 #[.string ⟨d.toArray⟩,.int .u64 n,.int .u64 ct] 107 :: boxR P.s (slCells P c.master Q.last) 90 :: ringR P.r P.d Q.ring :: tosR (.slice va xr.length vc) xr :: bxR P.b Q.B :: mapNR 34 Row3.agg P.m Q.rows :: diskR P.d Q.D :: ledR P.l P.d c.step c.most Q.led :: boxR g4 #[.int .u64 0,.string ⟨#[]⟩,.int .u64 0,.int .u64 0,.string ⟨#[]⟩,.string ⟨#[]⟩,.slice none 0 0,.int .u64 0,.int .u64 0,.int .i64 0] 40 :: L) ∧ (∀ o,wx.cell? ⟨g11,o,none⟩ = (#[.int .u64 id,.string ⟨d.toArray⟩,.int .u64 n,.int .u64 ct,.string ⟨xf.1.toArray⟩,.string ⟨xf.2.toArray⟩,.slice va xr.length vc,.int .u64 xb,.int .u64 xn,.int .i64 xt])[o]?) ∧ (∀ o,wx.cell? ⟨g7,o,none⟩ = (#[.string ⟨d.toArray⟩,.int .u64 n,.int .u64 ct])[o]?) ∧ (∀ o,wx.cell? ⟨P.s,o,none⟩ = (#[.pointer (some ⟨P.d,0,none⟩),.pointer (some ⟨P.b,0,none⟩),.string ⟨c.master.toArray⟩,.pointer (some ⟨P.l,0,none⟩),.pointer (some ⟨P.r,0,none⟩),.map (some P.m),.int .u64 Q.last])[o]?)) (by kernel_rfl) (by kernel_rfl) ⟨(HS6.out).drew,(Sp.pick [_,_,_,_,_,_,_,_,_,_] [0] (by decide) ((HS6.out).drew)).cell,(Sp.pick [_,_,_,_,_,_,_,_,_,_] [1] (by decide) ((HS6.out).drew)).cell,(Sp.pick [_,_,_,_,_,_,_,_,_,_] [2] (by decide) ((HS6.out).drew)).cell⟩ ?_
    repeat
      refine Exists.intro ?_ (And.intro (fun wS hS K hK => ?_) (And.intro ?_ ?_))
      rotate_left 1
      · obtain ⟨hS1,hS2,hS3,hS4⟩:=hS
        first
          | (refine if_unwanted rfl ?_; simp only [Act.put,List.setIfInBounds_toArray,List.set_cons_zero,List.set_cons_succ]; exact hK.out _ ⟨hS1,hS2,hS3,hS4⟩)
          | (refine if_wanted rfl ?_; go_simp; exact hK.out _ ⟨hS1,hS2,hS3,hS4⟩)
          | (refine if_wanted rfl ?_; go_simp; go_at_call 77; refine (HL2.out _ _ _ _ _ hS1).mono ?_; rintro e w12 ⟨rfl,S12⟩; exact hK.out _ ⟨S12,(Sp.pick [_,_,_,_,_,_,_,_,_,_] [0] (by decide) (S12)).cell,(Sp.pick [_,_,_,_,_,_,_,_,_,_] [1] (by decide) (S12)).cell,(Sp.pick [_,_,_,_,_,_,_,_,_,_] [2] (by decide) (S12)).cell⟩)
      · rfl
    intro wE hE
    have HSE:=Lib.hid hE.1
    clear hE
    clear HS6 HL2
    have S6:=(Sp.pick [_,_,_,_,_,_,_,_,_,_] [9,0,4,2,6,7,5,8,3] (by decide) (HSE.out))
    have d0:=S6.cell
    have f0:=S6.free
    have c11:=S6.pull1.cell
    have HSQ:=Lib.hid (((((((((((S6.set (o:=0) (.int .u64 id)).set (o:=1) (.string ⟨d.toArray⟩)).set (o:=2) (.int .u64 n)).set (o:=3) (.int .u64 ct)).set (o:=4) (.string ⟨xf.1.toArray⟩)).set (o:=5) (.string ⟨xf.2.toArray⟩)).set (o:=6) (.slice va xr.length vc)).set (o:=7) (.int .u64 xb)).set (o:=8) (.int .u64 xn)).set (o:=9) (.int .i64 xt)).drop.drop)
    clear S6 HSE
    go_wp2
    rw [HW.out]
    exact bodyPost_ret (v:=.tuple #[.agg #[.int .u64 id,.string ⟨d.toArray⟩,.int .u64 n,.int .u64 ct,.string ⟨xf.1.toArray⟩,.string ⟨xf.2.toArray⟩,.slice va xr.length vc,.int .u64 xb,.int .u64 xn,.int .i64 xt],.string ⟨body.toArray⟩,.bool true]) (by simp [results,Tryz.results44,go_sem,d0]) rfl ⟨_,rfl,HSQ.out⟩
  · have hh2 : Q.D.now.has fl = false:=by simpa using hh
    have HW : Hid (qo = (En.zero,[],false)):=HV.out.trans (if_neg hh)
    rw [show (if Q.D.now.has fl = true then (0 : Int) else 10) = 10 from if_neg hh]
    have S6:=(Sp.pick [_,_,_,_,_,_,_,_] [7,0,1,2,3,4,5] (by decide) (HSE.out))
    have d0:=S6.cell
    have f0:=S6.free
    have HSQ:=Lib.hid (((((((((((S6.set (o:=0) (.int .u64 0)).set (o:=1) (.string ⟨#[]⟩)).set (o:=2) (.int .u64 0)).set (o:=3) (.int .u64 0)).set (o:=4) (.string ⟨#[]⟩)).set (o:=5) (.string ⟨#[]⟩)).set (o:=6) (.slice none 0 0)).set (o:=7) (.int .u64 0)).set (o:=8) (.int .u64 0)).set (o:=9) (.int .i64 0)).drop.tosNil)
    clear S6 HSE HV hh
    go_wp2
    rw [HW.out]
    exact bodyPost_ret (v:=.tuple #[.agg #[.int .u64 0,.string ⟨#[]⟩,.int .u64 0,.int .u64 0,.string ⟨#[]⟩,.string ⟨#[]⟩,.slice none 0 0,.int .u64 0,.int .u64 0,.int .i64 0],.string ⟨#[]⟩,.bool false]) (by simp [results,Tryz.results44,go_sem,d0]) rfl ⟨.slice none 0 0,rfl,HSQ.out⟩
end
end
end Go.Proofs.YtangbdahnmomlaaGreatDoor
