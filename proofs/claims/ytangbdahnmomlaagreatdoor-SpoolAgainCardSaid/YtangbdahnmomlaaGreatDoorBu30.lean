/- spool: index. Conditions: the lengths fit. spool, plainly: what keeps all lengths small, act by act. No program. -/
import Derived.Test.YtangbdahnmomlaaGreatDoorBu29
set_option linter.unnecessarySimpa false
set_option linter.unusedSimpArgs false
set_option linter.unusedVariables false
set_option maxHeartbeats 2000000
set_option maxRecDepth 100000
namespace Go.Proofs.YtangbdahnmomlaaGreatDoor
section
open Go.RowKit Go.Maps
theorem slRead_ok {s : Bs} (h : (slRead ⟨s,false⟩).2.2.1 = true) :
    (slRead ⟨s,false⟩).2.2.2.bad = false ∧ s = slRow (slRead ⟨s,false⟩).1 (slRead ⟨s,false⟩).2.1 ++ (slRead ⟨s,false⟩).2.2.2.s ∧ (slRead ⟨s,false⟩).2.2.2.s.length < s.length ∧ (slRead ⟨s,false⟩).1 ≤ 1099511627776 ∧ (slRead ⟨s,false⟩).2.1.fit:=by
  unfold slRead at h ⊢
  simp only [decide_eq_true_eq] at h ⊢
  obtain ⟨b4,e4⟩:=done_bad h
  obtain ⟨b3,e3⟩:=num_ok b4
  obtain ⟨b2,e2⟩:=num_ok b3
  obtain ⟨b1,e1⟩:=text_ok b2
  obtain ⟨b0,e0⟩:=num_ok b1
  have l1:=num_le ⟨(Rd.text ⟨s,false⟩ 400).1,false⟩ 1099511627776
  have l2:=text_fst_le (Rd.num ⟨(Rd.text ⟨s,false⟩ 400).1,false⟩ 1099511627776).2 255
  have l3:=num_le ((Rd.num ⟨(Rd.text ⟨s,false⟩ 400).1,false⟩ 1099511627776).2.text 255).2 1099511627776
  have l4:=num_le (((Rd.num ⟨(Rd.text ⟨s,false⟩ 400).1,false⟩ 1099511627776).2.text 255).2.num 1099511627776).2 1099511627776
  have hb : (Rd.text ⟨s,false⟩ 400).2.bad = false:=by
    cases hh : (Rd.text ⟨s,false⟩ 400).2.bad with
    | false => rfl
    | true =>
      exfalso
      have ht : (Rd.text ⟨s,false⟩ 400).1 = []:=by
        unfold Rd.text Rd.take at hh ⊢
        split
        · rfl
        · rename_i hc
          rw [if_neg hc] at hh
          cases hh
      dsimp only at e0
      rw [ht] at e0
      simp [textB,numB] at e0
  obtain ⟨_,ea⟩:=text_ok hb
  have hl:=(text_len ⟨s,false⟩ 400).2.1 hb
  dsimp only at *
  refine ⟨hb,?_,hl,l1,l2,l3,l4⟩
  rw [e4,List.append_nil] at e3
  rw [e3] at e2
  rw [e2] at e1
  rw [e1] at e0
  unfold slRow
  dsimp only
  rw [List.append_assoc,List.append_assoc,← e0]
  exact ea
theorem slScan_succ (f : Nat) (s : Bs) (h : s.length < f) : slScan (f + 1) s = slScan f s:=by
  induction f generalizing s with
  | zero => omega
  | succ f ih =>
    conv => lhs; rw [slScan]
    conv => rhs; rw [slScan]
    split
    · rename_i h1
      obtain ⟨_,_,h2,_⟩:=slRead_ok h1
      rw [ih _ (by omega)]
    · rfl
theorem slScan_step {s : Bs} (h : (slRead ⟨s,false⟩).2.2.1 = true) : slRowsOf s = ((slRead ⟨s,false⟩).1,(slRead ⟨s,false⟩).2.1) :: slRowsOf (slRead ⟨s,false⟩).2.2.2.s ∧ slRestOf s = slRestOf (slRead ⟨s,false⟩).2.2.2.s:=by
  obtain ⟨_,_,h2,_⟩:=slRead_ok h
  have h3 : ∀ f,(slRead ⟨s,false⟩).2.2.2.s.length < f → slScan f (slRead ⟨s,false⟩).2.2.2.s = slScan ((slRead ⟨s,false⟩).2.2.2.s.length + 1) (slRead ⟨s,false⟩).2.2.2.s:=by
    intro f hf
    induction f with
    | zero => omega
    | succ f ih =>
      by_cases hh : (slRead ⟨s,false⟩).2.2.2.s.length < f
      · rw [slScan_succ _ _ hh,ih hh]
      · rw [show f = (slRead ⟨s,false⟩).2.2.2.s.length by omega]
  unfold slRowsOf slRestOf
  rw [slScan,if_pos h,h3 _ h2]
  exact ⟨rfl,rfl⟩
theorem slScan_stop {s : Bs} (h : (slRead ⟨s,false⟩).2.2.1 = false) : slRowsOf s = [] ∧ slRestOf s = s:=by
  unfold slRowsOf slRestOf
  rw [slScan,if_neg (by simp [h])]
  exact ⟨rfl,rfl⟩
theorem slLearn_snoc (l : List (Nat × Row3)) (x : Nat × Row3) : slLearn (l ++ [x]) = (slKnows (slLearn l).1 x.1 x.2,max (slLearn l).2 x.1):=by simp [slLearn]
theorem slKnows_length (M : Mn Row3) (id : Nat) (r : Row3) : (slKnows M id r).length ≤ M.length + 1:=by
  unfold slKnows
  split
  · have:=List.length_filter_le (fun p : Nat × Row3 => !(p.1 == id)) M
    unfold Mn.del
    omega
  · exact Mn.length_put_le _ _ _
theorem slLearn_foldl_length : ∀ (l : List (Nat × Row3)) (q : Mn Row3 × Nat),(l.foldl (fun q p => (slKnows q.1 p.1 p.2,max q.2 p.1)) q).1.length ≤ q.1.length + l.length
  | [],q => by simp
  | x :: l,q => by
    have h1:=slLearn_foldl_length l (slKnows q.1 x.1 x.2,max q.2 x.1)
    have h2:=slKnows_length q.1 x.1 x.2
    simp only [List.foldl_cons,List.length_cons]
    dsimp only at h1
    omega
theorem slLearn_length (l : List (Nat × Row3)) : (slLearn l).1.length ≤ l.length:=by
  have:=slLearn_foldl_length l ([],0)
  simpa [slLearn] using this
section
variable {w0 w : World} {L : List Res} {P : SlPt} {c : Sc} {Q : Sq}
theorem slIndexS (k : Nat) (hq : Q.rows = []) (hz : Q.last = 0) (hD : Q.D.Roomy k) (hk : k ≤ 400000000) (S : Sp w0 [] w (slPs P c Q L)) :
    Calls Tryz.prog 36 #[.pointer (some ⟨P.s,0,none⟩)] w fun e w2 => e = .returned (.int .i64 (slIndex Q.D).2) ∧ Sp w0 [] w2 (slPs P c { Q with D:=(slIndex Q.D).1,rows:=(slLearn (slRowsOf (indexOf Q.D))).1,last:=(slLearn (slRowsOf (indexOf Q.D))).2 } L):=by
  obtain ⟨D,B,led,ring,rows,last⟩:=Q
  dsimp only at *
  subst hq hz
  have HO : Hid (slIndex D = _):=Lib.hid (slIndex.eq_1 D)
  have HF : Hid (indexOf D = (D.now.get indexB).getD []):=rfl
  have hl : (indexOf D).length ≤ k:=hD.file indexB
  have HL : Hid ((indexOf D).length ≤ 400000000):=Nat.le_trans hl hk
  have HW : Hid (D.Small ∧ ∀ x : Bs,x.length ≤ 400000000 → (D.write indexB x).1.Small):=by
    refine ⟨hD.small (by omega),fun x hx => (hD.write indexB x).small (by omega)⟩
  unfold slPs at S
  dsimp only at S
  have HS:=Lib.hid S
  have c0:=S.cell 0
  clear S hD hk hl
  unfold slCells at c0
  go_enter Tryz.func36,Tryz.ntmps36
  go_wp2_with fail
  refine (readS indexB HS.out.pull2 (by decide)).mono ?_
  rw [← HF.out]
  rintro e w2 ⟨rfl,rfl⟩
  generalize indexOf D = s at *
  obtain ⟨ec,hec⟩ : ∃ c : Int,(if D.now.has indexB then 0 else 10) = c:=⟨_,rfl⟩
  rw [hec]
  have HEC : Hid ((D.now.has indexB = true ∧ ec = 0) ∨ (D.now.has indexB = false ∧ ec = 10)):=by
    cases hh : D.now.has indexB <;> simp [hh] at hec <;> simp [hec.symm,Hid]
  clear hec
  go_wp2_with fail
  refine (fromS HS.out s).mono ?_
  rintro e w3 ⟨i,rfl,S3⟩
  have HS3:=Lib.hid S3
  clear S3 HS c0
  go_wp2_with fail
  go_loopw [6] (fun v wr => ∃ (dn : List (Nat × Row3)) (r : Bs),slRowsOf s = dn ++ slRowsOf r ∧ slRestOf s = slRestOf r ∧ v = .int .i64 ((s.length : Int) - r.length) ∧ r.length + dn.length ≤ s.length ∧ Sp w0 [] wr (rdR 151 i ⟨r,false⟩ :: boxR P.s (slCells P c.master (slLearn dn).2) 90 :: mapNR 34 Row3.agg P.m (slLearn dn).1 :: diskR P.d D :: bxR P.b B :: ledR P.l P.d c.step c.most led :: ringR P.r P.d ring :: L)) (fun v _ => s.length - (intOf v).toNat)
  case atStart => exact ⟨[],s,rfl,rfl,by simp,by simp,HS3.out⟩
  case round =>
    obtain ⟨dn,r,h1,h2,rfl,h4,S4⟩:=hrel
    have H1:=Lib.hid h1
    have H2:=Lib.hid h2
    have H4:=Lib.hid h4
    have HS4:=Lib.hid S4
    clear h1 h2 h4 S4 HS3
    go_wp2_with fail
    refine (slReadS i ⟨r,false⟩ HS4.out (by have:=HL.out; have:=H4.out; dsimp only; omega)).mono ?_
    have HQ:=Lib.hid (@slRead_ok r)
    have HQ1:=Lib.hid (@slScan_step r)
    have HQ2:=Lib.hid (@slScan_stop r)
    generalize slRead ⟨r,false⟩ = q at *
    obtain ⟨x,⟨a,b,n⟩,ok,r2⟩:=q
    dsimp only at *
    rintro e w4 ⟨rfl,S5⟩
    clear HS4
    cases ok with
    | false =>
      obtain ⟨g1,g2⟩:=HQ2.out rfl
      have HR1 : Hid (slRowsOf s = dn):=by rw [H1.out,g1]; simp [Hid]
      have HR2 : Hid (slRestOf s = r):=by rw [H2.out,g2]; trivial
      have HS5:=Lib.hid (S5.drop.new (.cells #[.string ⟨a.toArray⟩,.int .u64 b,.int .u64 n] 107))
      clear g1 g2 HQ HQ1 HQ2 H1 H2 S5
      rw [HR2.out] at HO
      have hr : (r.length : Int) ≤ s.length:=by have:=H4.out; omega
      have hs : (s.length : Int) ≤ 400000000:=by have:=HL.out; omega
      have hcut:=cut_head s (s.length - r.length)
      have hle : (s.length : Int) - (r.length : Int) ≤ (s.length : Int):=by omega
      have HWL : Hid ((s.take (s.length - r.length)).length ≤ 400000000):=by have:=HL.out; rw [List.length_take]; unfold Hid; omega
      have c0:=HS5.out.cell 0
      unfold slCells at c0
      by_cases hcond : D.now.has indexB = true ∧ r = []
      · obtain ⟨hh,rfl⟩:=hcond
        have he : ec = 0:=by rcases HEC.out with h | h; exact h.2; rw [hh] at h; exact absurd h.1 (by decide)
        subst he
        have HV : Hid (slIndex D = (D,0)):=by unfold Hid; rw [HO.out,if_pos ⟨hh,rfl⟩]
        clear HO hcut
        go_wp2_with fail
        go_ret
        rw [HV.out,show indexOf D = s from HF.out.symm,HR1.out]
        exact ⟨rfl,HS5.out⟩
      · rw [if_neg hcond] at HO
        have HW1:=Lib.hid (HW.out.2 _ HWL.out)
        have HWR:=Lib.hid (fun (w' : World) (K : List Res) (S' : Sp w0 [] w' (diskR P.d D :: K)) => writeS indexB (s.take (s.length - r.length)) S' HW.out.1 (by decide) (by have:=HWL.out; omega))
        unfold indexB at HWR
        change Hid (∀ (w' : World) (K : List Res),Sp w0 [] w' (diskR P.d D :: K) → Calls Tryz.prog 61 _ w' fun e w2 => e = .returned (.int .i64 (D.write indexB (s.take (s.length - r.length))).2) ∧ Sp w0 [] w2 (diskR P.d (D.write indexB (s.take (s.length - r.length))).1 :: K)) at HWR
        have hec : (ec = 0 ∧ ((s.length : Int) - r.length == s.length) = false) ∨ (ec = 10 ∧ (0 : Int) = 0):=by
          rcases HEC.out with h | h
          · refine .inl ⟨h.2,?_⟩
            have : r ≠ []:=fun hr => hcond ⟨h.1,hr⟩
            have : r.length ≠ 0:=fun hr => this (List.eq_nil_of_length_eq_zero hr)
            simp only [beq_eq_false_iff_ne]
            omega
          · exact .inr ⟨h.2,rfl⟩
        clear HEC hcond
        generalize D.write indexB (s.take (s.length - r.length)) = A at *
        generalize hst : s.take (s.length - r.length) = st at *
        obtain ⟨D1,e1⟩:=A
        dsimp only at *
        rcases hec with ⟨rfl,hb⟩ | ⟨rfl,hb⟩
        all_goals
          go_upto_region 10 with (fail)
          clear hb
          refine wp_region_chainG [0,1,2,3,4,5,6,7,8] (fun c => c == 7) (fun c => false) (T:=fun wx => wx.cell? ⟨P.s,0,none⟩ = some (.pointer (some ⟨P.d,0,none⟩))) (S:=fun wx => Sp w0 [] wx (boxR P.s (slCells P c.master (slLearn dn).2) 90 :: mapNR 34 Row3.agg P.m (slLearn dn).1 :: diskR P.d D :: bxR P.b B :: ledR P.l P.d c.step c.most led :: ringR P.r P.d ring :: L)) (by kernel_rfl) (by kernel_rfl) (by kernel_rfl) HS5.out.drew (fun x h => h.cell 0) ?_
          repeat
            refine Exists.intro _ (And.intro rfl (Or.inl (Exists.intro ?_ (And.intro (fun wS hS K hK => ?_) (And.intro ?_ ?_)))))
            rotate_left 1
            · have t0:=hS
              first
                | (refine if_unwanted rfl ?_; simp only [Act.put,List.setIfInBounds_toArray,List.set_cons_zero,List.set_cons_succ]; exact hK.out)
                | (refine if_wanted rfl ?_; go_simp; exact hK.out)
            · rfl
          refine ChainG.one rfl rfl rfl (fun wS hS R hR => ?_)
          go_simp
          go_at_call 61
          refine (HWR.out _ _ hS.pull2).mono ?_
          rintro e w7 ⟨rfl,S7⟩
          refine hR.out _ _ rfl (fun wx => wx.cell? ⟨P.s,0,none⟩ = some (.pointer (some ⟨P.d,0,none⟩))) (fun wx => Sp w0 [] wx (diskR P.d D1 :: boxR P.s (slCells P c.master (slLearn dn).2) 90 :: mapNR 34 Row3.agg P.m (slLearn dn).1 :: bxR P.b B :: ledR P.l P.d c.step c.most led :: ringR P.r P.d ring :: L)) S7 (fun x h => h.pull1.cell 0) (fun _ h => h) ?_
          clear hR hS S7
          repeat
            refine Exists.intro _ (And.intro rfl (Or.inl (Exists.intro ?_ (And.intro (fun wS hS K hK => ?_) (And.intro ?_ ?_)))))
            rotate_left 1
            · have t0:=hS
              first
                | (refine if_unwanted rfl ?_; simp only [Act.put,List.setIfInBounds_toArray,List.set_cons_zero,List.set_cons_succ]; exact hK.out)
                | (refine if_wanted rfl ?_; go_simp; exact hK.out)
            · rfl
          intro wE hE
          have HSE:=Lib.hid hE
          clear hE
          clear HS5 HWR c0
          by_cases he : e1 = 0
          · subst he
            have c0:=HSE.out.pull1.cell 0
            unfold slCells at c0
            have HV : Hid (slIndex D = D1.sync):=by unfold Hid; rw [HO.out]; simp
            go_wp2_with fail
            refine (syncS HSE.out HW1.out).mono ?_
            rintro e w6 ⟨rfl,S7⟩
            have HZ:=Lib.hid ((Sp.pick [_,_,_] [1,2,0] (by decide) (S7)))
            clear S7 HSE c0
            go_wp2_with fail
            go_ret
            rw [HV.out,show indexOf D = s from HF.out.symm,HR1.out]
            exact ⟨rfl,HZ.out⟩
          · have hb : (e1 != 0) = true:=by simpa using he
            have HV : Hid (slIndex D = (D1,e1)):=by unfold Hid; rw [HO.out,if_pos he]
            clear he HO
            go_wp2_with fail
            go_ret
            rw [HV.out,show indexOf D = s from HF.out.symm,HR1.out]
            have HZ:=(Sp.pick [_,_,_] [1,2,0] (by decide) (HSE.out))
            exact ⟨rfl,HZ⟩
    | true =>
      obtain ⟨g1,g2,g3,g4,g5⟩:=HQ.out rfl
      obtain ⟨g7,g8⟩:=HQ1.out rfl
      obtain ⟨r2,bad⟩:=r2
      dsimp only at *
      subst g1
      have HM : Hid ((slLearn dn).1.length < maxLen):=by have:=slLearn_length dn; have:=H4.out; have:=HL.out; unfold Hid maxLen; omega
      have HX : Hid (x < 18446744073709551616):=by unfold Hid; omega
      have S6:=S5.box #[.string ⟨a.toArray⟩,.int .u64 b,.int .u64 n] 107
      have c6:=S6.cell
      have HS6:=Lib.hid S6
      have hls:=slLearn_snoc dn (x,⟨a,b,n⟩)
      have h1 : slRowsOf s = (dn ++ [(x,⟨a,b,n⟩)]) ++ slRowsOf r2:=by rw [H1.out,g7]; simp
      have h2 : slRestOf s = slRestOf r2:=by rw [H2.out,g8]
      have H1:=Lib.hid h1
      have H2:=Lib.hid h2
      have HLS:=Lib.hid hls
      have H4' : Hid (r2.length + (dn ++ [(x,(⟨a,b,n⟩ : Row3))]).length ≤ s.length):=by have:=H4.out; simp only [List.length_append,List.length_cons,List.length_nil,Hid]; omega
      have hr2 : (r2.length : Int) ≤ s.length:=by have:=H4.out; omega
      have hs : (s.length : Int) ≤ 400000000:=by have:=HL.out; omega
      have H3 : Hid (r2.length < r.length ∧ r.length ≤ s.length):=⟨g3,by have:=H4.out; omega⟩
      clear g2 g3 g4 g5 g7 g8 HQ HQ1 HQ2 S5 S6 h1 h2 hls
      go_upto_region 5 with (fail)
      generalize w4.alloc _ = w5 at *
      generalize w4.heap.size = g8 at *
      go_wp2_with fail
      refine (rdLeftS HS6.out.pull1).mono ?_
      rintro e w6 ⟨rfl,rfl⟩
      go_wp2_with fail
      have HZ:=(Sp.pick [_,_,_,_] [2,3,1] (by decide) (HS6.out))
      refine (slKnowS x ⟨a,b,n⟩ HX.out HM.out HZ).mono ?_
      rintro e w7 ⟨rfl,S7⟩
      have HS7 : Hid (Sp w0 [] w7 (rdR 151 i ⟨r2,false⟩ :: boxR P.s (slCells P c.master (slLearn (dn ++ [(x,⟨a,b,n⟩)])).2) 90 :: mapNR 34 Row3.agg P.m (slLearn (dn ++ [(x,⟨a,b,n⟩)])).1 :: diskR P.d D :: bxR P.b B :: ledR P.l P.d c.step c.most led :: ringR P.r P.d ring :: L)):=by
        rw [HLS.out]
        exact S7.pull2
      clear S7 HS6 c6 HZ
      go_wp2_with fail
      go_roundw
      case rel => exact ⟨_,r2,H1.out,H2.out,rfl,H4'.out,HS7.out⟩
      case measure => have:=H3.out; simp [intOf]; omega
end
end
section
open Go.RowKit Go.Maps
def Bx.tab : Bx → Nat
  | .real => 0
  | .ideal _ T => T.length
def Bx.slim : Bx → Prop
  | .real => True
  | .ideal D T => D.length ≤ 1000000 ∧ ∀ k x,T.get k = some x → x.2.1.length ≤ 16384 ∧ x.2.2.length = x.2.1.length + 16
structure SlOk (c : Sc) (n : Nat) (Q : Sq) : Prop where
  key : c.master.length = 32
  step : 1 ≤ c.step ∧ c.step ≤ 1000
  most : c.most ≤ 1099511627776
  room : Q.D.Roomy n
  led : ∀ p ∈ Q.led,p.2.c ≤ p.2.ceil ∧ p.2.ceil ≤ 1099511627776
  ledn : Q.led.length ≤ n
  ring : ∀ p ∈ Q.ring,p.2.now ≤ 1000000 ∧ p.2.old ≤ 1000000
  ringn : Q.ring.length ≤ n
  fit : RowsFit Q.rows
  len : Q.rows.length ≤ n
  last : Q.last ≤ 1099511627776
  slim : Q.B.slim
  tab : 1000 * Q.B.tab ≤ n
section
variable {c : Sc} {n m : Nat} {Q : Sq}
theorem SlOk.mono (h : SlOk c n Q) (hn : n ≤ m) : SlOk c m Q:={ h with room:=h.room.mono hn,ledn:=Nat.le_trans h.ledn hn,ringn:=Nat.le_trans h.ringn hn,len:=Nat.le_trans h.len hn,tab:=Nat.le_trans h.tab hn }
theorem SlOk.disk (h : SlOk c n Q) {D : Dk} (hD : D.Roomy m) (hn : n ≤ m) : SlOk c m { Q with D:=D }:={ h.mono hn with room:=hD }
theorem SlOk.ledOk (h : SlOk c n Q) (hn : n ≤ 1000000) : ledOk Q.led:=⟨Nat.le_trans h.ledn hn,h.led⟩
theorem SlOk.ringOk (h : SlOk c n Q) (hn : n ≤ 1000000) : ringOk Q.ring:=⟨Nat.le_trans h.ringn hn,h.ring⟩
theorem SlOk.box (h : SlOk c n Q) (hn : n ≤ 1000000) : Q.B.ok:=by
  have h1:=h.slim
  have h2:=h.tab
  cases hB : Q.B with
  | real => trivial
  | ideal D T =>
    rw [hB] at h1 h2
    refine ⟨⟨?_,fun k x hx => ?_⟩,h1.1⟩
    · have : 1000 * T.length ≤ n:=h2
      omega
    · have:=h1.2 k x hx
      omega
theorem SlOk.small (h : SlOk c n Q) (hn : n ≤ 1000000) : Q.rows.length < maxLen:=by have:=h.len; unfold maxLen; omega
theorem slKnows_fit {M : Mn Row3} (h : RowsFit M) {id : Nat} {r : Row3} (hi : id ≤ 1099511627776) (hr : r.fit) : RowsFit (slKnows M id r):=by
  unfold slKnows
  split
  · exact fun p hp => h p (List.mem_filter.1 hp).1
  · intro p hp
    rcases Mn.mem_put.1 hp with rfl | ⟨hp,_⟩
    · exact ⟨hi,hr⟩
    · exact h p hp
theorem SlOk.know (h : SlOk c n Q) {id : Nat} {r : Row3} (hi : id ≤ 1099511627776) (hr : r.fit) : SlOk c (n + 1) (Q.know id r) :=
  { h.mono (Nat.le_succ n) with
    fit:=slKnows_fit h.fit hi hr
    len:=Nat.le_trans (slKnows_length Q.rows id r) (Nat.succ_le_succ h.len)
    last:=Nat.max_le.2 ⟨h.last,hi⟩ }
theorem gone_fit {M : Mn Row3} (h : RowsFit M) (id : Nat) : (⟨(rowAt M id).dom,0,0⟩ : Row3).fit:=⟨(rowAt_fit h id).1,Nat.zero_le _,Nat.zero_le _⟩
theorem SlOk.lay (h : SlOk c n Q) {id : Nat} {r : Row3} (hi : id ≤ 1099511627776) (hr : r.fit) : SlOk c (n + 403) (Q.lay id r).1:=by
  have hl:=slRow_len id r hr.1
  have h1:=h.room.append indexB (slRow id r)
  unfold Sq.lay
  split
  · exact (h.disk h1 (by omega)).mono (by omega)
  · split
    · exact (h.disk h1.sync (by omega)).mono (by omega)
    · exact ((h.disk h1.sync (by omega)).know hi hr).mono (by omega)
theorem SlOk.drop (h : SlOk c n Q) {id : Nat} (hi : id ≤ 1099511627776) : SlOk c (n + 403) (Q.drop id).1:=by
  have hr:=gone_fit h.fit id
  have hl:=slRow_len id ⟨(rowAt Q.rows id).dom,0,0⟩ hr.1
  have h0:=slAway_room h.room (slFile Q.rows id)
  have h1:=h0.append indexB (slRow id ⟨(rowAt Q.rows id).dom,0,0⟩)
  unfold Sq.drop
  split
  · exact (h.disk h0 (by omega)).mono (by omega)
  · split
    · exact (h.disk h1 (by omega)).mono (by omega)
    · exact ((h.disk h1 (by omega)).know hi hr).mono (by omega)
theorem SlOk.sync (h : SlOk c n Q) : SlOk c (n + 1) { Q with D:=Q.D.sync.1 }:=h.disk h.room.sync (by omega)
theorem SlOk.remove1 (h : SlOk c n Q) (f : Bs) : SlOk c (n + 1) { Q with D:=(Q.D.remove f).1 }:=h.disk (h.room.remove f) (by omega)
theorem SlOk.has (h : SlOk c n Q) {id : Nat} (hh : Q.rows.has id = true) : id ≤ 1099511627776:=by
  rw [Mn.has_eq] at hh
  obtain ⟨r,hr⟩:=Option.isSome_iff_exists.1 hh
  exact (h.fit _ (Mn.get_mem hr)).1
theorem ledReserve_room {D : Dk} {k : Nat} (h : D.Roomy k) {x : Bs} (hx : x.length ≤ 300) (ceil : Nat) : (ledReserve D x ceil).1.Roomy (k + 329):=by
  have hl:=lrow_length_le ⟨x,ceil⟩
  dsimp only at hl
  have h1:=h.append ledB (LRow.text ⟨x,ceil⟩)
  unfold ledReserve
  split
  · exact h1.mono (by omega)
  · exact h1.sync.mono (by omega)
theorem ledNext_room {D : Dk} {k : Nat} (h : D.Roomy k) (M : Mp Cnt) (step most : Nat) (x : Bs) : (ledNextN D M step most x).1.Roomy (k + 329):=by
  unfold ledNextN
  split
  · exact h.mono (by omega)
  · rename_i hx
    split
    · exact h.mono (by omega)
    · split
      · split
        · exact ledReserve_room h (by omega) _
        · exact ledReserve_room h (by omega) _
      · exact h.mono (by omega)
theorem lgOf_of {M : Mp Cnt} (h : ∀ p ∈ M,p.2.c ≤ p.2.ceil ∧ p.2.ceil ≤ 1099511627776) (x : Bs) : (lgOf M x).c ≤ (lgOf M x).ceil ∧ (lgOf M x).ceil ≤ 1099511627776:=by
  unfold lgOf Mp.get
  cases hf : M.find? fun p => p.1 == x with
  | none => simp
  | some p => exact h p (List.mem_of_find?_eq_some hf)
theorem ledNext_led {D : Dk} {M : Mp Cnt} (h : ∀ p ∈ M,p.2.c ≤ p.2.ceil ∧ p.2.ceil ≤ 1099511627776) {step most : Nat} (hs : 1 ≤ step) (hm : most ≤ 1099511627776) (x : Bs) :
    (∀ p ∈ (ledNextN D M step most x).2.1,p.2.c ≤ p.2.ceil ∧ p.2.ceil ≤ 1099511627776) ∧ (ledNextN D M step most x).2.1.length ≤ M.length + 1:=by
  have hx:=lgOf_of h x
  have put : ∀ v : Cnt,v.c ≤ v.ceil → v.ceil ≤ 1099511627776 → (∀ p ∈ M.put x v,p.2.c ≤ p.2.ceil ∧ p.2.ceil ≤ 1099511627776) ∧ (M.put x v).length ≤ M.length + 1:=by
    intro v h1 h2
    refine ⟨fun p hp => ?_,Mp.length_put_le _ _ _⟩
    rcases Mp.mem_put.1 hp with rfl | ⟨hp,_⟩
    · exact ⟨h1,h2⟩
    · exact h p hp
  unfold ledNextN
  split
  · exact ⟨h,Nat.le_succ _⟩
  · split
    · exact ⟨h,Nat.le_succ _⟩
    · split
      · split
        · exact ⟨h,Nat.le_succ _⟩
        · exact put _ (by dsimp only; omega) (by dsimp only; omega)
      · exact put _ (by dsimp only; omega) (by dsimp only; omega)
theorem SlOk.next (h : SlOk c n Q) (d : Bs) : SlOk c (n + 330) { Q with D:=(Q.next c d).1,led:=(Q.next c d).2.1 }:=by
  have h1:=ledNext_room h.room Q.led c.step c.most (ringKey d (Q.epoch d))
  have h2:=ledNext_led (D:=Q.D) h.led h.step.1 h.most (ringKey d (Q.epoch d))
  have hl:=h.ledn
  exact { h.mono (Nat.le_add_right n 330) with room:=h1.mono (by omega),led:=h2.1,ledn:=by have:=h2.2; show (ledNextN Q.D Q.led c.step c.most (ringKey d (Q.epoch d))).2.1.length ≤ _; omega }
theorem ringSet_room {D : Dk} {k : Nat} (h : D.Roomy k) (M : Mp RSt) {x : Bs} (hx : x.length ≤ 255) (s : RSt) : (ringSet D M x s).1.Roomy (k + 293):=by
  have hl:=ringRow_length_le x s
  have h1:=h.append ringB (ringRow x s)
  unfold ringSet
  split
  · exact h.mono (by omega)
  · split
    · exact h1.mono (by omega)
    · split
      · exact h1.sync.mono (by omega)
      · exact h1.sync.mono (by omega)
theorem ringSet_ring {D : Dk} {M : Mp RSt} (h : ∀ p ∈ M,p.2.now ≤ 1000000 ∧ p.2.old ≤ 1000000) {x : Bs} {s : RSt} (h1 : s.now ≤ 1000000) (h2 : s.old ≤ 1000000) :
    (∀ p ∈ (ringSet D M x s).2.1,p.2.now ≤ 1000000 ∧ p.2.old ≤ 1000000) ∧ (ringSet D M x s).2.1.length ≤ M.length + 1:=by
  unfold ringSet
  split
  · exact ⟨h,Nat.le_succ _⟩
  · split
    · exact ⟨h,Nat.le_succ _⟩
    · split
      · exact ⟨h,Nat.le_succ _⟩
      · refine ⟨fun p hp => ?_,Mp.length_put_le _ _ _⟩
        rcases Mp.mem_put.1 hp with rfl | ⟨hp,_⟩
        · exact ⟨h1,h2⟩
        · exact h p hp
theorem ringState_of {M : Mp RSt} (h : ∀ p ∈ M,p.2.now ≤ 1000000 ∧ p.2.old ≤ 1000000) (x : Bs) : (ringState M x).now ≤ 1000000 ∧ (ringState M x).old ≤ 1000000:=by
  unfold ringState Mp.get
  cases hf : M.find? fun p => p.1 == x with
  | none => simp
  | some p => exact h p (List.mem_of_find?_eq_some hf)
theorem SlOk.set (h : SlOk c n Q) {x : Bs} (hx : x.length ≤ 255) {s : RSt} (h1 : s.now ≤ 1000000) (h2 : s.old ≤ 1000000) : SlOk c (n + 400) { Q with D:=(ringSet Q.D Q.ring x s).1,ring:=(ringSet Q.D Q.ring x s).2.1 }:=by
  have ha:=ringSet_room h.room Q.ring hx s
  have hb:=ringSet_ring (D:=Q.D) h.ring (x:=x) h1 h2
  have hl:=h.ringn
  exact { h.mono (Nat.le_add_right n 400) with room:=ha.mono (by omega),ring:=hb.1,ringn:=by have:=hb.2; show (ringSet Q.D Q.ring x s).2.1.length ≤ _; omega }
theorem SlOk.begin (h : SlOk c n Q) (d : Bs) : SlOk c (n + 400) (Q.begin d).1:=by
  have hs:=ringState_of h.ring d
  have h0 : SlOk c (n + 400) { Q with D:=Q.D,ring:=Q.ring }:=h.mono (by omega)
  unfold Sq.begin ringBegin
  split
  · exact h0
  · split
    · exact h0
    · split
      · exact h0
      · rename_i h255 _ hne
        have h1:=h.set (x:=d) (by omega) (s:=⟨(ringState Q.ring d).now + 1,(ringState Q.ring d).now⟩) (by dsimp only; omega) (by dsimp only; omega)
        split
        · exact h1
        · exact h1
theorem SlOk.end (h : SlOk c n Q) (d : Bs) : SlOk c (n + 400) { Q with D:=(ringEnd Q.D Q.ring d).1,ring:=(ringEnd Q.D Q.ring d).2.1 }:=by
  have hs:=ringState_of h.ring d
  have h0 : SlOk c (n + 400) { Q with D:=Q.D,ring:=Q.ring }:=h.mono (by omega)
  unfold ringEnd
  split
  · exact h0
  · split
    · exact h0
    · rename_i h255 _
      exact h.set (x:=d) (by omega) (s:=⟨(ringState Q.ring d).now,0⟩) (by dsimp only; omega) (Nat.zero_le _)
theorem slSeal_ok {B : Bx} (hB : B.slim) (key : Bs) (e : En) (body : Bs) : (slSeal B key e body).2.slim ∧ (slSeal B key e body).2.tab ≤ B.tab + 1 ∧ (slSeal B key e body).1.1.length ≤ 20500:=by
  have hlen : ∀ q : Bs × Int,q.1.length ≤ 16400 → (enSealV e body q).1.length ≤ 20500:=by
    intro q hq
    unfold enSealV
    split
    · rename_i he
      have hh:=headB_len (enMay_parts he)
      have h3:=textB_length_le (headB e)
      split
      · split
        · dsimp only
          rw [List.length_append]
          omega
        · exact Nat.zero_le _
      · exact Nat.zero_le _
    · exact Nat.zero_le _
  cases B with
  | real =>
    have h2 : (slSeal .real key e body).2 = .real:=by unfold slSeal Bx.seal; dsimp only; split <;> rfl
    rw [h2]
    refine ⟨trivial,Nat.le_succ _,hlen _ ?_⟩
    show (rlSeal key (nonceE e.cnt) (headB e) (fillB body)).1.length ≤ 16400
    unfold rlSeal
    split
    · dsimp only
      rw [chC.shut_length]
      omega
    · exact Nat.zero_le _
  | ideal D T =>
    have hs : (bxSeal uB T D key (nonceE e.cnt) (headB e) (fillB body)).1.1.length ≤ 16400 ∧ (Bx.ideal (bxSeal uB T D key (nonceE e.cnt) (headB e) (fillB body)).2.1 (bxSeal uB T D key (nonceE e.cnt) (headB e) (fillB body)).2.2).slim ∧ (bxSeal uB T D key (nonceE e.cnt) (headB e) (fillB body)).2.2.length ≤ T.length + 1:=by
      unfold bxSeal
      split
      · rename_i hc
        cases hg : T.get (uB key (nonceE e.cnt)) with
        | none =>
          dsimp only
          split
          · exact ⟨Nat.zero_le _,hB,Nat.le_succ _⟩
          · refine ⟨by dsimp only; rw [List.length_take]; omega,⟨by dsimp only; rw [List.length_drop]; have:=hB.1; omega,fun k x hx => ?_⟩,Mp.length_put_le _ _ _⟩
            dsimp only at hx
            rw [Mp.get_put] at hx
            split at hx
            · cases hx
              exact ⟨hc.2.2.2,by dsimp only; rw [List.length_take]; omega⟩
            · exact hB.2 k x hx
        | some x =>
          dsimp only
          split
          · exact ⟨by have:=hB.2 _ _ hg; dsimp only; omega,hB,Nat.le_succ _⟩
          · exact ⟨Nat.zero_le _,hB,Nat.le_succ _⟩
      · exact ⟨Nat.zero_le _,hB,Nat.le_succ _⟩
    have h2 : (slSeal (.ideal D T) key e body).2 = .ideal (bxSeal uB T D key (nonceE e.cnt) (headB e) (fillB body)).2.1 (bxSeal uB T D key (nonceE e.cnt) (headB e) (fillB body)).2.2 ∨ (slSeal (.ideal D T) key e body).2 = .ideal D T:=by
      unfold slSeal Bx.seal
      dsimp only
      split
      · exact .inl rfl
      · exact .inr rfl
    refine ⟨?_,?_,hlen _ hs.1⟩
    · rcases h2 with h | h
      · rw [h]; exact hs.2.1
      · rw [h]; exact hB
    · rcases h2 with h | h
      · rw [h]; exact hs.2.2
      · rw [h]; exact Nat.le_succ _
theorem SlOk.sealed (h : SlOk c n Q) (e : En) (body : Bs) : SlOk c (n + 1330) (Q.sealed c e body).1 ∧ (Q.sealed c e body).2.1.length ≤ 20500 ∧ ((Q.sealed c e body).2.2 = 0 → e.dom.length ≤ 255):=by
  have h1:=h.next e.dom
  unfold Sq.sealed
  split
  · rename_i h0
    exact ⟨h1.mono (by omega),Nat.zero_le _,fun hh => absurd hh h0⟩
  · split
    · exact ⟨h1.mono (by omega),Nat.zero_le _,fun hh => by cases hh⟩
    · rename_i h255
      have h2:=slSeal_ok h.slim (keyB c.master e.dom (Q.epoch e.dom)) (Q.entry c e) body
      have ht:=h.tab
      exact ⟨{ h1.mono (show n + 330 ≤ n + 1330 by omega) with slim:=h2.1,tab:=by have:=h2.2.1; dsimp only; omega },h2.2.2,fun _ => by omega⟩
theorem SlOk.wrote (h : SlOk c n Q) {file text : Bs} (ht : text.length ≤ 20500) {id : Nat} (hi : id ≤ 1099511627776) {r : Row3} (hr : r.fit) (old : Option Bs) : SlOk c (n + 20905) (Q.wrote file text id r old).1:=by
  have h1 : SlOk c (n + 20501) { Q with D:=(Q.D.write file text).1 }:=h.disk ((h.room.write file text).mono (by omega)) (by omega)
  have h2:=h1.lay hi hr
  unfold Sq.wrote
  split
  · exact h1.mono (by omega)
  · dsimp only
    split
    · exact (h2.remove1 file).mono (by omega)
    · cases old with
      | none => exact h2.mono (by omega)
      | some o =>
        dsimp only
        split
        · exact h2.mono (by omega)
        · exact (h2.remove1 o).mono (by omega)
theorem SlOk.entry (h : SlOk c n Q) (e : En) : (Q.entry c e).ep ≤ 1000000 ∧ (Q.entry c e).cnt ≤ 1099511627776:=by
  refine ⟨(ringState_of h.ring e.dom).1,?_⟩
  have h2:=lgOf_of (h.next e.dom).led (ringKey e.dom (Q.epoch e.dom))
  show (lgOf (Q.next c e.dom).2.1 (ringKey e.dom (Q.epoch e.dom))).c - 1 ≤ _
  dsimp only at h2
  omega
theorem SlOk.write (h : SlOk c n Q) (e : En) (body : Bs) (hi : e.id ≤ 1099511627776) : SlOk c (n + 22500) (Q.write c e body).1:=by
  obtain ⟨h1,h2,h3⟩:=h.sealed e body
  have h4:=h.entry e
  unfold Sq.write
  dsimp only
  split
  · exact h1.mono (by omega)
  · rename_i h0
    exact (h1.wrote h2 hi (r:=⟨e.dom,(Q.entry c e).ep,(Q.entry c e).cnt⟩) ⟨h3 (Classical.byContradiction fun hh => h0 hh),by have:=h4.1; dsimp only; omega,h4.2⟩ _).mono (by omega)
theorem SlOk.put (h : SlOk c n Q) (e : En) (body : Bs) : SlOk c (n + 22500) (Q.put c e body).1:=by
  have h0:=h.mono (show n ≤ n + 22500 by omega)
  unfold Sq.put
  split
  · exact h0
  · split
    · exact h0
    · split
      · exact h0
      · rename_i hl
        have h1:=h.write { e with id:=Q.last + 1 } body (by have:=h.last; dsimp only; omega)
        dsimp only
        split
        · exact h1
        · exact h1
theorem SlOk.load (h : SlOk c n Q) (id : Nat) : SlOk c (n + 404) (Q.load c.master id).1:=by
  have h0:=h.mono (show n ≤ n + 404 by omega)
  unfold Sq.load
  split
  · exact h0
  · rename_i hh
    have hi:=h.has (id:=id) (by simpa using hh)
    have h1:=h.drop hi
    split
    · exact h0
    · split
      · exact h1.mono (by omega)
      · split
        · exact h1.sync.mono (by omega)
        · exact h1.sync.mono (by omega)
theorem SlOk.update (h : SlOk c n Q) (e : En) : SlOk c (n + 23000) (Q.update c e).1:=by
  have h1:=h.load e.id
  have h2:=h1.mono (show n + 404 ≤ n + 23000 by omega)
  unfold Sq.update
  dsimp only
  split
  · exact h2
  · rename_i h0
    split
    · exact h2
    · split
      · exact h2
      · have hh : Q.rows.has e.id = true:=by
          cases hh : Q.rows.has e.id with
          | true => rfl
          | false =>
            exfalso
            apply h0
            unfold Sq.load
            rw [if_pos hh]
            exact show (10 : Int) ≠ 0 by decide
        exact (h1.write e _ (h.has hh)).mono (by omega)
theorem SlOk.remove (h : SlOk c n Q) (id : Nat) : SlOk c (n + 404) (Q.remove id).1:=by
  have h0:=h.mono (show n ≤ n + 404 by omega)
  unfold Sq.remove
  split
  · exact h0
  · rename_i hh
    have hi:=h.has (id:=id) (by simpa using hh)
    have h1:=h.lay hi (gone_fit h.fit id)
    dsimp only
    split
    · exact h1.mono (by omega)
    · exact h1.remove1 _
end
end
end Go.Proofs.YtangbdahnmomlaaGreatDoor
