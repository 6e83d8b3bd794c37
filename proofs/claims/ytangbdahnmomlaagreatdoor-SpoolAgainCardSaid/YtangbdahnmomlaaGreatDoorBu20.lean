/- entry: mailboxes, recipients, whether an entry may be. Conditions: the lengths fit; what Go's variables hold. entry: the greatest of numbers, and whether an entry may be. Conditions: the lengths fit; what Go's variables hold. -/
import Derived.Shelf.SlicesQ.IndexFunc
import Derived.Test.YtangbdahnmomlaaGreatDoorBu15
import Derived.Test.YtangbdahnmomlaaGreatDoorGen
set_option linter.unnecessarySimpa false
set_option linter.unusedSimpArgs false
set_option linter.unusedVariables false
set_option maxHeartbeats 4000000
set_option maxRecDepth 100000
namespace Go.Proofs.YtangbdahnmomlaaGreatDoor
section
open Go.RowKit
section
variable {w0 w : World} {L : List Res} {b : Nat} {v : Value} {e : En}
theorem enMailboxS (m : Mb) (S : Sp w0 [] w L) (E : Env w0) (h1 : m.1.length ≤ 1000000) (h2 : m.2.length ≤ 1000000) : Calls Tryz.prog 102 #[mbAgg m] w fun e w2 => e = .returned (.bool (mbMay m)) ∧ Sp w0 [] w2 L:=by
  obtain ⟨l,d⟩:=m
  have HS0:=Lib.hid (S.box (mbCells (l,d)) 37)
  have HM:=Lib.hid (fun (w' : World) (S' : Sp w0 [] w' (boxR w.heap.size (mbCells (l,d)) 37 :: L)) => mayS (l,d) S' E h1 h2)
  unfold mbAgg at *
  unfold mbCells at HS0
  dsimp only at *
  clear S E h1 h2
  go_enter Tryz.func102,Tryz.ntmps102
  go_wp2_with fail
  refine (HM.out _ HS0.out).mono ?_
  rintro e w2 ⟨rfl,S⟩
  have HS2:=Lib.hid S.drop
  clear S HS0 HM
  go_wp2
  go_ret
  exact ⟨rfl,HS2.out⟩
def Rcp.Fit (x : Rcp) : Prop:=x.1.1.length ≤ 1000000 ∧ x.1.2.length ≤ 1000000 ∧ -9223372036854775808 ≤ x.2 ∧ x.2 ≤ 9223372036854775807
def rcAgg (x : Rcp) : Value:=.agg #[.string ⟨x.1.1.toArray⟩,.string ⟨x.1.2.toArray⟩,.int .i64 x.2]
theorem enBad_any (x : Rcp) (S : Sp w0 [] w L) (E : Env w0) (h : x.Fit) : Calls Tryz.prog 140 #[rcAgg x] w fun e w2 => e = .returned (.bool (!rcMay x)) ∧ Sp w0 [] w2 L:=by
  obtain ⟨⟨l,d⟩,s⟩:=x
  obtain ⟨h1,h2,h3,h4⟩:=h
  dsimp only at *
  have HS0:=Lib.hid (S.box #[.string ⟨l.toArray⟩,.string ⟨d.toArray⟩,.int .i64 s] 100)
  have HM:=Lib.hid (fun (w' : World) (L' : List Res) (S' : Sp w0 [] w' L') => enMailboxS (l,d) S' E h1 h2)
  have HV : Hid (rcMay ((l,d),s) = (mbMay (l,d) && decide (0 ≤ s) && decide (s ≤ 2))):=rfl
  unfold rcAgg
  unfold mbAgg at HM
  dsimp only at *
  clear S E h1 h2
  go_enter Tryz.func140,Tryz.ntmps140
  go_upto_region 1 with (fail)
  generalize w.alloc (.cells #[.string ⟨l.toArray⟩,.string ⟨d.toArray⟩,.int .i64 s] 100) = w1 at *
  generalize w.heap.size = q at *
  have c0:=HS0.out.cell
  go_wp2_with fail
  refine (HM.out _ _ HS0.out).mono ?_
  rintro e w2 ⟨rfl,S⟩
  generalize mbMay (l,d) = m at *
  have c1:=S.cell
  have HS2:=Lib.hid S.drop
  clear S HS0 HM c0
  cases m with
  | false =>
    have HW : Hid (rcMay ((l,d),s) = false):=by unfold Hid; rw [HV.out]; rfl
    go_wp2
    go_ret
    exact ⟨by rw [HW.out]; rfl,HS2.out⟩
  | true =>
    go_wp2
    all_goals
      go_ret
      refine ⟨ret_bool ?_,HS2.out⟩
      rw [HV.out,Bool.eq_iff_iff]
      simp
      first | done | omega
abbrev RcpF:={x : Rcp // x.Fit}
instance : Inhabited RcpF:=⟨⟨(([],[]),0),by unfold Rcp.Fit; decide⟩⟩
theorem rcpFs : ∀ l : List Rcp,(∀ x ∈ l,x.Fit) → ∃ zs : List RcpF,zs.map (·.1) = l
  | [],_ => ⟨[],rfl⟩
  | s :: l,h => by
    obtain ⟨zs,hz⟩:=rcpFs l fun t ht => h t (by simp [ht])
    exact ⟨⟨s,h s (by simp)⟩ :: zs,by simp [hz]⟩
theorem cell_lt {b o : Nat} {x : Value} (h : w.cell? ⟨b,o,none⟩ = some x) : b < w.heap.size:=by
  apply Classical.byContradiction
  intro hn
  have h2 : w.heap[b]? = none:=Array.getElem?_eq_none (by omega)
  simp [World.cell?,h2] at h
theorem anyBadS (l : List Rcp) (h0 : l ≠ []) (hn : l.length ≤ 1000) (hf : ∀ x ∈ l,x.Fit) (T : TosAt w v l) (S : Sp w0 [] w L) (E : Env w0) : Calls Tryz.prog 139 #[v,.func (.func 140) #[] #[]] w fun e w2 => e = .returned (.bool (l.any fun x => !rcMay x)) ∧ Sp w0 [] w2 L:=by
  obtain ⟨zs,rfl⟩:=rcpFs l hf
  obtain ⟨a,cap,rfl⟩:=T.form
  have eg : ∀ args w,(callFunc 140 args).run Tryz.prog w = .ok (.enter 140 args) w:=enters_of Tryz.func140 (by kernel_rfl) rfl
  obtain ⟨b,off,rfl,_⟩:=T.at (i:=0) (by simp at h0 ⊢; exact List.length_pos_iff.2 h0)
  have hlt : b < w.heap.size:=by
    obtain ⟨b2,o2,h1,h2,_⟩:=T.at (i:=0) (by simp at h0 ⊢; exact List.length_pos_iff.2 h0)
    cases h1
    exact cell_lt h2
  have hp : PredBelow Tryz.prog 140 #[] (fun x : RcpF => .agg x.1.vals.toArray) (fun x => !rcMay x.1) w:=fun W x hb => (enBad_any (w0:=W) (L:=[]) x.1 (Sp.nil W []) (E.ext (S.ext.trans (Ext.of_below hb) (by simp))) x.2).mono fun _ _ ⟨he,hx⟩ => ⟨he,hb.trans ((hx.ext.below (Nat.le_refl _) (by simp)).mono hb.size)⟩
  refine (AnyQ.slices_ContainsFunc Tryz.conT 3 (fun w => by kernel_rfl) (fun w => by kernel_rfl) (fun x : RcpF => x.1.vals) (fun _ => rfl) (fun x => !rcMay x.1) _ #[] eg b off _ cap zs w hp (by simp) (by rw [List.length_map] at *; omega) hlt (fun j hj i u hu => ?_)).mono ?_
  · obtain ⟨a2,cap2,h1,h2⟩:=T
    cases h1
    have hr : ((zs.map (·.1)).map Rcp.vals)[j]? = some (zs[j]!).1.vals:=by rw [List.map_map,List.getElem?_map,List.getElem?_eq_getElem hj,getElem!_pos zs j hj]; rfl
    exact h2.at j _ hr i u hu
  · rintro e w2 ⟨rfl,hb⟩
    refine ⟨?_,S.ext0 (Ext.of_below hb)⟩
    rw [List.any_map,List.length_map,List.take_length]
    rfl
theorem enRecipientsS (l : List Rcp) (hn : l.length ≤ 1000) (hf : ∀ x ∈ l,x.Fit) (T : TosAt w v l) (S : Sp w0 [] w L) (E : Env w0) : Calls Tryz.prog 103 #[v] w fun e w2 => e = .returned (.bool (rcsMay l)) ∧ Sp w0 [] w2 L:=by
  have hn' : (l.length : Int) ≤ 1000:=by omega
  have HA:=Lib.hid (fun h0 => anyBadS l h0 hn hf T S E)
  have HS:=Lib.hid S
  have HV : Hid (rcsMay l = (decide (1 ≤ l.length) && decide (l.length ≤ 10) && l.all rcMay)):=rfl
  obtain ⟨a,cap,rfl⟩:=T.form
  clear S E T hf hn
  by_cases h0 : l = []
  · subst h0
    have HW : Hid (rcsMay [] = false):=rfl
    go_enter Tryz.func103,Tryz.ntmps103
    go_wp2
    go_ret
    exact ⟨by rw [HW.out]; rfl,HS.out⟩
  · have h1 : 1 ≤ l.length:=List.length_pos_iff.2 h0
    have h1' : (0 : Int) < l.length:=by omega
    by_cases h2 : l.length ≤ 10
    · have h2' : (l.length : Int) ≤ 10:=by omega
      have HW : Hid (rcsMay l = !(l.any fun x => !rcMay x)):=by
        unfold Hid
        rw [HV.out,decide_eq_true h1,decide_eq_true h2,List.not_any_eq_all_not]
        simp
      have HA2:=Lib.hid (HA.out h0)
      generalize (l.any fun x => !rcMay x) = q at *
      clear h0 h1 h2 HA
      go_enter Tryz.func103,Tryz.ntmps103
      go_wp2_with fail
      refine HA2.out.mono ?_
      rintro e w2 ⟨rfl,S⟩
      have HS2:=Lib.hid S
      clear S
      go_wp2
      go_ret
      exact ⟨by rw [HW.out]; rfl,HS2.out⟩
    · have h2' : (10 : Int) < l.length:=by omega
      have HW : Hid (rcsMay l = false):=by
        unfold Hid
        rw [HV.out,decide_eq_false h2]
        simp
      clear h0 h1 h2 HA
      go_enter Tryz.func103,Tryz.ntmps103
      go_wp2
      go_ret
      exact ⟨by rw [HW.out]; exact ret_bool (by simp),HS.out⟩
end
end
section
open Go.RowKit
section
variable {w0 w : World} {L : List Res} {F0 : List Nat} {b : Nat} {v : Value} {e : En}
theorem maxU_any (l : List Nat) (b cap : Nat) (w : World) (h0 : 1 ≤ l.length) (hl : l.length ≤ 1000) (hc : ∀ (i : Nat) (x : Nat),l[i]? = some x → w.cell? ⟨b,i,none⟩ = some (.int .u64 (x : Int))) :
    Calls Tryz.prog 101 #[.slice (some ⟨b,0,none⟩) l.length cap] w fun e w2 => (∃ m : Nat,e = .returned (.int .u64 m) ∧ ∀ k,m ≤ k ↔ ∀ x ∈ l,x ≤ k) ∧ w = w2:=by
  have h0' : (1 : Int) ≤ l.length:=by omega
  have hl' : (l.length : Int) ≤ 1000:=by omega
  have HC:=Lib.hid hc
  obtain ⟨x0,r,rfl⟩ : ∃ x0 r,l = x0 :: r:=by
    cases l with
    | nil => simp at h0
    | cons x0 r => exact ⟨x0,r,rfl⟩
  have c0 : w.cell? ⟨b,0,none⟩ = some (.int .u64 (x0 : Int)):=hc 0 x0 rfl
  have HB : Hid (∀ i,i < (x0 :: r).length → (x0 :: r)[i]? = some ((x0 :: r).getD i 0)):=fun i hi => by rw [List.getD_eq_getElem?_getD,List.getElem?_eq_getElem hi]; rfl
  have HT : Hid (∀ i,i < (x0 :: r).length → (x0 :: r).take (i + 1) = (x0 :: r).take i ++ [(x0 :: r).getD i 0]):=fun i hi => by rw [List.take_add_one,HB.out i hi]; rfl
  have HA : Hid ((x0 :: r).take (x0 :: r).length = x0 :: r):=List.take_length
  have HO : Hid ((x0 :: r).take 1 = [x0]):=rfl
  clear hc h0 hl
  generalize hq : x0 :: r = l at *
  clear hq r
  go_enter Tryz.func101,Tryz.ntmps101
  go_wp2_with fail
  go_loopw [3,4] (fun v at0 wr => ∃ m i : Nat,v = .int .u64 m ∧ at0 = .int .i64 i ∧ 1 ≤ i ∧ i ≤ l.length ∧ (∀ k,m ≤ k ↔ ∀ x ∈ l.take i,x ≤ k) ∧ w = wr) (fun _ v _ => l.length - (intOf v).toNat)
  case atStart => exact ⟨x0,1,rfl,rfl,Nat.le_refl 1,by omega,by rw [HO.out]; simp,rfl⟩
  case round =>
    obtain ⟨m,i,rfl,rfl,h1,h2,h3,rfl⟩:=hrel
    have H3:=Lib.hid h3
    have h2' : (i : Int) ≤ l.length:=by omega
    clear h3
    by_cases hi : i < l.length
    · have hi' : (i : Int) < l.length:=by omega
      have ci:=HC.out i _ (HB.out i hi)
      have HTi:=Lib.hid (HT.out i hi)
      generalize l.getD i 0 = x at *
      go_wp2_with fail
      go_roundw
      case rel => exact ⟨max m x,i + 1,congrArg (Value.int .u64) (by omega),by go_num,by omega,by omega,fun k => by
          have h:=H3.out k
          rw [HTi.out]
          simp only [List.mem_append,List.mem_singleton]
          constructor
          · rintro hk y (hy | rfl)
            · exact h.1 (by omega) y hy
            · omega
          · intro hk
            have h1:=h.2 fun y hy => hk y (.inl hy)
            have h2:=hk x (.inr rfl)
            omega,by trivial⟩
      case measure => simp [intOf]; omega
    · obtain rfl : i = l.length:=by omega
      rw [HA.out] at H3
      go_wp2_with fail
      go_ret
      exact ⟨⟨m,rfl,H3.out⟩,rfl⟩
theorem domV_yes {s : Bs} (h : domMay s = true) : domV s = (s,0):=by
  unfold domMay at h
  rw [Bool.and_eq_true,beq_iff_eq] at h
  unfold domV
  rw [if_pos h.1,h.2]
theorem domV_no {s : Bs} (h : domMay s = false) : (domV s).2 = 2 ∨ ((domV s).2 = 0 ∧ (domV s).1 ≠ s):=by
  unfold domV
  by_cases h1 : domOk s = true
  · rw [if_pos h1]
    refine .inr ⟨rfl,fun h2 => ?_⟩
    have h3 : smallB s = s:=h2
    unfold domMay at h
    rw [h1,h3] at h
    simp at h
  · rw [if_neg h1]
    exact .inl rfl
theorem enMay_any (e : En) (v : Value) (w : World) (E : Env w) (hf : e.Fit) (T : TosAt w v e.rcs) : Calls Tryz.prog 68 #[enAgg e v] w fun r w2 => r = .returned (.bool (enMay e)) ∧ Ext [] w w2:=by
  have HS0:=Lib.hid ((Sp.nil w []).box (enCells e v) 40)
  have HD:=Lib.hid (fun (w' : World) (L' : List Res) (S' : Sp w [] w' L') => domainS e.dom S' E hf.dom)
  have HM:=Lib.hid (fun (w' : World) (L' : List Res) (S' : Sp w [] w' L') => enMailboxS e.frm S' E hf.frm.1 hf.frm.2)
  have HR:=Lib.hid (fun (w' : World) (L' : List Res) (S' : Sp w [] w' L') => enRecipientsS e.rcs hf.rcs hf.each (T.ext S'.ext) S' E)
  have HV : Hid (enMay e = (domMay e.dom && numsMay e && (noBoxE e.frm || mbMay e.frm) && rcsMay e.rcs)):=rfl
  have HY:=Lib.hid (@domV_yes e.dom)
  have HN:=Lib.hid (@domV_no e.dom)
  have HX : Hid (∀ (w' : World) (b : Nat),(∀ o,w'.cell? ⟨b,o,none⟩ = (#[Value.int .u64 e.id,.int .u64 e.ep,.int .u64 e.cnt,.int .u64 e.born,.int .u64 e.nxt] : Array Value)[o]?) → Calls Tryz.prog 101 #[.slice (some ⟨b,0,none⟩) 5 5] w' fun r w2 => (∃ m : Nat,r = .returned (.int .u64 m) ∧ ∀ k,m ≤ k ↔ ∀ x ∈ [e.id,e.ep,e.cnt,e.born,e.nxt],x ≤ k) ∧ w' = w2):=fun w' b hc => maxU_any [e.id,e.ep,e.cnt,e.born,e.nxt] b 5 w' (show 1 ≤ 5 by omega) (show 5 ≤ 1000 by omega) (fun i x hx => by
    rw [hc i]
    match i,hx with
    | 0,hx => cases hx; rfl
    | 1,hx => cases hx; rfl
    | 2,hx => cases hx; rfl
    | 3,hx => cases hx; rfl
    | 4,hx => cases hx; rfl)
  obtain ⟨id,dom,ep,cnt,⟨fl,fd⟩,rcs,born,nxt,tries⟩:=e
  unfold enAgg
  unfold enCells at HS0
  unfold mbAgg at HM
  dsimp only at *
  clear T E hf
  go_enter Tryz.func68,Tryz.ntmps68
  go_upto_region 1 with (fail)
  generalize w.alloc (.cells #[.int .u64 id,.string ⟨dom.toArray⟩,.int .u64 ep,.int .u64 cnt,.string ⟨fl.toArray⟩,.string ⟨fd.toArray⟩,v,.int .u64 born,.int .u64 nxt,.int .i64 tries] 40) = w1 at *
  generalize w.heap.size = q0 at *
  have c0:=HS0.out.cell
  go_wp2_with fail
  refine (HD.out _ _ HS0.out).mono ?_
  rintro r w2 ⟨rfl,S⟩
  have c1:=S.cell
  have l1:=S.boxlt
  have HS1:=Lib.hid (S.box #[.int .u64 id,.int .u64 ep,.int .u64 cnt,.int .u64 born,.int .u64 nxt] 189)
  generalize domV dom = dv at *
  obtain ⟨d,f⟩:=dv
  dsimp only at *
  clear S HS0 c0 HD
  go_upto_region 3 with (fail)
  generalize w2.alloc (.cells #[.int .u64 id,.int .u64 ep,.int .u64 cnt,.int .u64 born,.int .u64 nxt] 189) = w3 at *
  generalize w2.heap.size = q1 at *
  have c2:=HS1.out.pull1.cell
  have HMX:=Lib.hid (HX.out w3 q1 HS1.out.cell)
  have HNU : Hid (numsMay ⟨id,dom,ep,cnt,(fl,fd),rcs,born,nxt,tries⟩ = (decide (1 ≤ id) && decide (1 ≤ ep) && decide (id ≤ 1099511627776) && decide (ep ≤ 1099511627776) && decide (cnt ≤ 1099511627776) && decide (born ≤ 1099511627776) && decide (nxt ≤ 1099511627776) && decide (0 ≤ tries) && decide (tries ≤ 100))):=rfl
  generalize numsMay ⟨id,dom,ep,cnt,(fl,fd),rcs,born,nxt,tries⟩ = N at *
  clear HX c1 l1
  cases hdm : domMay dom with
  | false =>
    have HW : Hid (enMay ⟨id,dom,ep,cnt,(fl,fd),rcs,born,nxt,tries⟩ = false):=by unfold Hid; rw [HV.out,hdm]; simp
    rcases HN.out hdm with h | ⟨h,h'⟩
    · have hf : f = 2:=h
      subst hf
      clear h hdm
      go_wp2
      go_ret
      exact ⟨by rw [HW.out]; rfl,HS1.out.ext⟩
    · have hf : f = 0:=h
      have hd : d ≠ dom:=h'
      subst hf
      clear h h' hdm
      go_wp2
      go_ret
      exact ⟨by rw [HW.out]; rfl,HS1.out.ext⟩
  | true =>
    obtain ⟨rfl,rfl⟩ : dom = d ∧ f = 0:=by
      have:=HY.out hdm
      simp only [Prod.mk.injEq] at this
      exact ⟨this.1.symm,this.2⟩
    rw [hdm] at HV
    clear HY HN hdm
    by_cases h1 : 1 ≤ id
    · have h1' : (0 : Int) < id:=by omega
      by_cases h2 : 1 ≤ ep
      · have h2' : (0 : Int) < ep:=by omega
        go_wp2_with fail
        refine HMX.out.mono ?_
        rintro r w4 ⟨⟨m,rfl,hm⟩,rfl⟩
        have HMM:=Lib.hid (hm 1099511627776)
        clear hm
        by_cases h3 : m ≤ 1099511627776
        · have h3' : (m : Int) ≤ 1099511627776:=by omega
          have HG:=Lib.hid (HMM.out.1 h3)
          by_cases h4 : 0 ≤ tries
          · by_cases h5 : tries ≤ 100
            · have HNT : Hid (N = true):=by
                have:=HG.out
                simp only [List.mem_cons,List.not_mem_nil,or_false,forall_eq_or_imp,forall_eq] at this
                unfold Hid
                rw [HNU.out]
                simp
                omega
              clear HMM HG HMX HNU h1 h2 h3
              cases hnb : noBoxE (fl,fd) with
              | true =>
                have hnb':=hnb
                unfold noBoxE at hnb'
                simp only [Bool.and_eq_true,beq_iff_eq] at hnb'
                obtain ⟨rfl,rfl⟩:=hnb'
                have HBX : Hid ((noBoxE (([] : Bs),([] : Bs)) || mbMay ([],[])) = true):=by unfold Hid; rw [hnb]; simp
                clear hnb
                go_wp2_with fail
                refine (HR.out _ _ HS1.out).mono ?_
                rintro r w5 ⟨rfl,S⟩
                have HS5:=Lib.hid S
                have HW : Hid (enMay ⟨id,dom,ep,cnt,([],[]),rcs,born,nxt,tries⟩ = rcsMay rcs):=by unfold Hid; rw [HV.out,HNT.out,HBX.out]; simp
                generalize rcsMay rcs = z at *
                clear S HV
                go_wp2
                go_ret
                exact ⟨by rw [HW.out]; rfl,HS5.out.ext⟩
              | false =>
                by_cases hfl : fl = []
                · have hfd : fd ≠ []:=by
                    intro h
                    subst hfl h
                    simp [noBoxE] at hnb
                  subst hfl
                  go_wp2_with fail
                  refine (HM.out _ _ HS1.out).mono ?_
                  rintro r w4 ⟨rfl,S⟩
                  have c5:=S.pull1.cell
                  have HS4:=Lib.hid S
                  clear S
                  cases hmb : mbMay ([],fd) with
                  | false =>
                    have HW : Hid (enMay ⟨id,dom,ep,cnt,([],fd),rcs,born,nxt,tries⟩ = false):=by unfold Hid; rw [HV.out,hnb,hmb]; simp
                    go_wp2
                    go_ret
                    exact ⟨by rw [HW.out]; rfl,HS4.out.ext⟩
                  | true =>
                    have HBX : Hid ((noBoxE ([],fd) || mbMay ([],fd)) = true):=by unfold Hid; rw [hmb]; simp
                    go_wp2_with fail
                    refine (HR.out _ _ HS4.out).mono ?_
                    rintro r w5 ⟨rfl,S⟩
                    have HS5:=Lib.hid S
                    have HW : Hid (enMay ⟨id,dom,ep,cnt,([],fd),rcs,born,nxt,tries⟩ = rcsMay rcs):=by unfold Hid; rw [HV.out,HNT.out,HBX.out]; simp
                    generalize rcsMay rcs = z at *
                    clear S HV
                    go_wp2
                    go_ret
                    exact ⟨by rw [HW.out]; rfl,HS5.out.ext⟩
                · skip
                  go_wp2_with fail
                  refine (HM.out _ _ HS1.out).mono ?_
                  rintro r w4 ⟨rfl,S⟩
                  have c5:=S.pull1.cell
                  have HS4:=Lib.hid S
                  clear S
                  cases hmb : mbMay (fl,fd) with
                  | false =>
                    have HW : Hid (enMay ⟨id,dom,ep,cnt,(fl,fd),rcs,born,nxt,tries⟩ = false):=by unfold Hid; rw [HV.out,hnb,hmb]; simp
                    go_wp2
                    go_ret
                    exact ⟨by rw [HW.out]; rfl,HS4.out.ext⟩
                  | true =>
                    have HBX : Hid ((noBoxE (fl,fd) || mbMay (fl,fd)) = true):=by unfold Hid; rw [hmb]; simp
                    go_wp2_with fail
                    refine (HR.out _ _ HS4.out).mono ?_
                    rintro r w5 ⟨rfl,S⟩
                    have HS5:=Lib.hid S
                    have HW : Hid (enMay ⟨id,dom,ep,cnt,(fl,fd),rcs,born,nxt,tries⟩ = rcsMay rcs):=by unfold Hid; rw [HV.out,HNT.out,HBX.out]; simp
                    generalize rcsMay rcs = z at *
                    clear S HV
                    go_wp2
                    go_ret
                    exact ⟨by rw [HW.out]; rfl,HS5.out.ext⟩
            · have HW : Hid (enMay ⟨id,dom,ep,cnt,(fl,fd),rcs,born,nxt,tries⟩ = false):=by unfold Hid; rw [HV.out,HNU.out,decide_eq_false h5]; simp
              clear HMM HG HMX HNU h1 h2 h3
              go_wp2
              go_ret
              exact ⟨by rw [HW.out]; rfl,HS1.out.ext⟩
          · have HW : Hid (enMay ⟨id,dom,ep,cnt,(fl,fd),rcs,born,nxt,tries⟩ = false):=by unfold Hid; rw [HV.out,HNU.out,decide_eq_false h4]; simp
            clear HMM HG HMX HNU h1 h2 h3
            go_wp2
            go_ret
            exact ⟨by rw [HW.out]; rfl,HS1.out.ext⟩
        · have h3' : (1099511627776 : Int) < m:=by omega
          have HW : Hid (enMay ⟨id,dom,ep,cnt,(fl,fd),rcs,born,nxt,tries⟩ = false):=by
            unfold Hid
            rw [HV.out]
            have hn : N ≠ true:=by
              intro hn
              rw [HNU.out] at hn
              simp only [Bool.and_eq_true,decide_eq_true_eq] at hn
              refine h3 (HMM.out.2 ?_)
              simp only [List.mem_cons,List.not_mem_nil,or_false,forall_eq_or_imp,forall_eq]
              omega
            cases N
            · simp
            · exact absurd rfl hn
          clear HMM HMX HNU h1 h2 h3
          go_wp2
          go_ret
          exact ⟨by rw [HW.out]; rfl,HS1.out.ext⟩
      · have h2' : (ep : Int) = 0:=by omega
        have HW : Hid (enMay ⟨id,dom,ep,cnt,(fl,fd),rcs,born,nxt,tries⟩ = false):=by unfold Hid; rw [HV.out,HNU.out,decide_eq_false h2]; simp
        clear HMX HNU h1 h2
        go_wp2
        go_ret
        exact ⟨by rw [HW.out]; rfl,HS1.out.ext⟩
    · have h1' : (id : Int) = 0:=by omega
      have HW : Hid (enMay ⟨id,dom,ep,cnt,(fl,fd),rcs,born,nxt,tries⟩ = false):=by unfold Hid; rw [HV.out,HNU.out,decide_eq_false h1]; simp
      clear HMX HNU h1
      go_wp2
      go_ret
      exact ⟨by rw [HW.out]; rfl,HS1.out.ext⟩
end
end
end Go.Proofs.YtangbdahnmomlaaGreatDoor
