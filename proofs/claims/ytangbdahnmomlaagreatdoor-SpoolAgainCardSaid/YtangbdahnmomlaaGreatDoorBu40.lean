/- spool: Step. Conditions: the lengths fit; what Go's variables hold. -/
import Derived.Test.YtangbdahnmomlaaGreatDoorBu39
set_option linter.unnecessarySimpa false
set_option linter.unusedSimpArgs false
set_option linter.unusedVariables false
set_option maxHeartbeats 8000000
set_option maxRecDepth 1000000
namespace Go.Proofs.YtangbdahnmomlaaGreatDoor
section
open Go.RowKit Go.Maps Go.Shelf
attribute [local go_sem] Oper.semAt_some
theorem opened_ok {B : Bx} {key t : Bs} (h : (slOpened B key t).2.2 = 0) : enMay (slOpened B key t).1 = true:=by
  unfold slOpened enOpenV at h ⊢
  split at h
  · rename_i h0
    rw [if_pos h0]
    split at h
    · rename_i h1
      rw [if_pos h1]
      split at h
      · rename_i h2
        rw [if_pos h2]
        exact (split_ok h0).1
      · rename_i h2
        exact absurd h h2
    · rename_i h1
      exact absurd h h1
  · rename_i h0
    exact absurd h h0
theorem open_ok {Q : Sq} {m : Bs} {id : Nat} (h : (Q.open m id).2.2 = true) : enMay (Q.open m id).1 = true ∧ (Q.open m id).1.id = id ∧ (Q.open m id).1.dom = (rowAt Q.rows id).dom ∧ (Q.open m id).1.ep = (rowAt Q.rows id).ep ∧ (Q.open m id).1.cnt = (rowAt Q.rows id).cnt:=by
  unfold Sq.open at h ⊢
  split at h
  · rename_i h0
    rw [if_pos h0]
    split at h
    · rename_i h1
      rw [if_pos h1]
      split at h
      · rename_i h2
        rw [if_pos h2]
        unfold slRight at h2
        simp only [Bool.and_eq_true,decide_eq_true_eq] at h2
        obtain ⟨⟨⟨⟨⟨a1,a2⟩,a3⟩,a4⟩,a5⟩,_⟩:=h2
        exact ⟨opened_ok a1,a2,a3,a4,a5⟩
      · cases h
    · cases h
  · cases h
theorem load_ok {Q : Sq} {m : Bs} {id : Nat} (h : (Q.load m id).2.2.2 = 0) : Q.rows.has id = true ∧ (Q.open m id).2.2 = true ∧ Q.load m id = (Q,(Q.open m id).1,(Q.open m id).2.1,0):=by
  rw [load_eq] at h ⊢
  split at h
  · cases h
  · rename_i h0
    rw [if_neg h0]
    split at h
    · rename_i h1
      rw [if_pos h1]
      exact ⟨by simpa using h0,h1,rfl⟩
    · split at h
      · rename_i h2
        exact absurd h h2
      · split at h
        · rename_i h3
          exact absurd h h3
        · cases h
theorem enMay_fit {e : En} (h : enMay e = true) : e.Fit:=by
  have p:=enMay_parts h
  exact ⟨by have:=p.id; omega,by have:=p.ep; omega,by have:=p.cnt; omega,by have:=p.born; omega,by have:=p.nxt; omega,by have:=p.tries; omega,by have:=p.dom; omega,by have:=p.frm; omega,by have:=p.rcs; omega,fun x hx => by have:=p.each x hx; omega⟩
theorem slElder_app (M : Mn Row3) (d : Bs) (o : Nat) : ∀ (l k : List Nat),slElder M d o l = none → slElder M d o (l ++ k) = slElder M d o k
  | [],k,_ => rfl
  | x :: l,k,h => by
    unfold slElder at h
    split at h
    · cases h
    · rename_i hx
      rw [List.cons_append]
      conv => lhs; unfold slElder
      rw [if_neg hx]
      exact slElder_app M d o l k h
theorem step_eq (Q : Sq) (c : Sc) (d : Bs) : Q.step c d = if (ringState Q.ring d).old = 0 then (Q,false,10)
  else match slElder Q.rows d (ringState Q.ring d).old Q.ids with
    | some id => if (Q.load c.master id).2.2.2 = 0 then (((Q.load c.master id).1.write c (Q.load c.master id).2.1 (Q.load c.master id).2.2.1).1,false,((Q.load c.master id).1.write c (Q.load c.master id).2.1 (Q.load c.master id).2.2.1).2)
      else if (Q.load c.master id).2.2.2 = 20 then ((Q.load c.master id).1,false,0) else ((Q.load c.master id).1,false,(Q.load c.master id).2.2.2)
    | none => ({ Q with D:=(ringEnd Q.D Q.ring d).1,ring:=(ringEnd Q.D Q.ring d).2.1 },decide ((ringEnd Q.D Q.ring d).2.2 = 0),(ringEnd Q.D Q.ring d).2.2):=rfl
theorem SlOk.stepped {c : Sc} {n : Nat} {Q : Sq} (h : SlOk c n Q) (d : Bs) : SlOk c (n + 23000) (Q.step c d).1:=by
  have h0:=h.mono (show n ≤ n + 23000 by omega)
  rw [step_eq]
  split
  · exact h0
  · split
    · rename_i id _
      have h1:=h.load id
      split
      · rename_i hz
        obtain ⟨hh,hr,_⟩:=load_ok hz
        have ho:=open_ok hr
        refine (h1.write _ _ ?_).mono (by omega)
        obtain ⟨_,_,e⟩:=load_ok hz
        rw [e]
        exact (enMay_parts ho.1).id.2
      · split
        · exact h1.mono (by omega)
        · exact h1.mono (by omega)
    · exact (h.end d).mono (by omega)
section
variable {w0 w : World} {L : List Res} {P : SlPt} {c : Sc} {Q : Sq} {v : Value}
def stepPs (P : SlPt) (c : Sc) (q2 q3 q4 q5 q6 : Nat) (d : Bs) (old : Nat) (Q : Sq) (b : Bool) (e : Int) (L : List Res) : List Res :=
  slPs P c Q (boxR q4 #[.bool b] 4 :: boxR q5 #[.int .i64 e] 27 :: boxR q2 #[.pointer (some ⟨P.s,0,none⟩)] 26 :: boxR q3 #[.string ⟨d.toArray⟩] 9 :: boxR q6 #[.int .u64 old] 34 :: L)
theorem slStepS (d : Bs) (n : Nat) (hd : d.length ≤ 1000000) (h : SlOk c n Q) (hn : n ≤ 969000) (E : Env w0) (S : Sp w0 [] w (slPs P c Q L)) :
    Calls Tryz.prog 12 #[.pointer (some ⟨P.s,0,none⟩),.string ⟨d.toArray⟩] w fun r w2 => r = .returned (.tuple #[.bool (Q.step c d).2.1,.int .i64 (Q.step c d).2.2]) ∧ Sp w0 [] w2 (slPs P c (Q.step c d).1 L):=by
  refine (callsIn_wide (n:=6)).1 ?_
  have HV : Hid (Q.step c d = _):=Lib.hid (step_eq Q c d)
  have HOK:=Lib.hid h
  have HN:=Lib.hid hn
  have HE:=Lib.hid E
  have HD:=Lib.hid hd
  have HRS:=Lib.hid (fun (w' : World) (K REST : List Res) (S' : Sp w0 [] w' (K ++ (ringR P.r P.d Q.ring :: REST))) => (ringStateS d S'.front (by unfold maxLen; omega)).mono (fun r w2 h => (⟨h.1,h.2.unfront⟩ : r = .returned (ringState Q.ring d).agg ∧ Sp w0 [] w2 (K ++ (ringR P.r P.d Q.ring :: REST)))))
  have S1:=(((S.box #[.pointer (some ⟨P.s,0,none⟩)] 26).box #[.string ⟨d.toArray⟩] 9).box #[.bool false] 4).box #[.int .i64 0] 27
  simp only [World.size_alloc] at S1
  unfold slPs at S1
  have HS1:=Lib.hid ((Sp.pick [_,_,_,_,_,_,_,_,_,_] [4,5,6,7,8,9,1,0,3,2] (by decide) (S1)))
  clear S1 h hn E hd S
  generalize hst : ringState Q.ring d = st at *
  obtain ⟨nw,od⟩:=st
  unfold RSt.agg at HRS
  dsimp only at *
  refine callsIn_of_wp_marks Tryz.func12 rfl trivial ?_ rfl
  simp only [Tryz.ntmps12,List.size_toArray,List.length_cons,List.length_nil,Nat.reduceAdd,Nat.reduceSub,Array.replicate_succ,Array.replicate_zero,List.push_toArray,List.append_toArray,List.nil_append,List.cons_append]
  gi_wp2_with fail
  generalize (((w.alloc _).alloc _).alloc _).alloc _ = w1 at *
  generalize w.heap.size + 1 + 1 + 1 = q5 at *
  generalize w.heap.size + 1 + 1 = q4 at *
  generalize w.heap.size + 1 = q3 at *
  generalize w.heap.size = q2 at *
  have HS0 : Hid (Sp w0 [] w1 (ringR P.r P.d Q.ring :: boxR P.s (slCells P c.master Q.last) 90 :: mapNR 34 Row3.agg P.m Q.rows :: diskR P.d Q.D :: bxR P.b Q.B :: ledR P.l P.d c.step c.most Q.led :: boxR q4 #[.bool false] 4 :: boxR q5 #[.int .i64 0] 27 :: boxR q2 #[.pointer (some ⟨P.s,0,none⟩)] 26 :: boxR q3 #[.string ⟨d.toArray⟩] 9 :: L)):=(Sp.pick [_,_,_,_,_,_,_,_,_,_] [5,0,1,2,3,4,6,7,8,9] (by decide) (HS1.out))
  have HFS : Hid (∀ (wx : World) (K : List Res),Sp w0 [] wx (K ++ (ringR P.r P.d Q.ring :: boxR P.s (slCells P c.master Q.last) 90 :: mapNR 34 Row3.agg P.m Q.rows :: diskR P.d Q.D :: bxR P.b Q.B :: ledR P.l P.d c.step c.most Q.led :: boxR q4 #[.bool false] 4 :: boxR q5 #[.int .i64 0] 27 :: boxR q2 #[.pointer (some ⟨P.s,0,none⟩)] 26 :: boxR q3 #[.string ⟨d.toArray⟩] 9 :: L)) → (wx.cell? ⟨P.s,4,none⟩ = some (.pointer (some ⟨P.r,0,none⟩)) ∧ wx.cell? ⟨q2,0,none⟩ = some (.pointer (some ⟨P.s,0,none⟩)) ∧ wx.cell? ⟨q3,0,none⟩ = some (.string ⟨d.toArray⟩))):=fun wx K h => by
    have h2:=Sp.drops K h
    exact ⟨((Sp.pick [_,_,_,_,_,_,_,_,_,_] [1] (by decide) (h2))).cell 4,((Sp.pick [_,_,_,_,_,_,_,_,_,_] [8] (by decide) (h2))).cell 0,((Sp.pick [_,_,_,_,_,_,_,_,_,_] [9] (by decide) (h2))).cell 0⟩
  clear HS1
  refine wpIn_mono (Q:=fun e a2 wx => match e with | .normal => ∃ g : Nat,a2 = { tmps:=#[.pointer (some ⟨P.s,0,none⟩),.string ⟨d.toArray⟩,.pointer (some ⟨q2,0,none⟩),.pointer (some ⟨q3,0,none⟩),.pointer (some ⟨q4,0,none⟩),.pointer (some ⟨q5,0,none⟩),.pointer (some ⟨g,0,none⟩),undef,undef,undef,undef,undef,undef,.pointer (some ⟨P.s,0,none⟩),.pointer (some ⟨P.s,0,none⟩),.pointer (some ⟨P.s,4,none⟩),.pointer (some ⟨P.r,0,none⟩),.string ⟨d.toArray⟩,.agg #[.int .u64 nw,.int .u64 od],.int .u64 od,undef,undef,undef,undef,undef,undef,undef,undef,undef,undef,undef,undef,undef,undef,undef,undef,undef,undef,undef,undef,undef,undef,undef,undef,undef,undef,undef,undef,undef,undef,undef,undef,undef,undef,undef,undef,undef,undef,undef,undef,undef,undef,undef,undef,undef,undef,undef],defers:=[] } ∧ Sp w0 [] wx (boxR g #[.int .u64 od] 34 :: ringR P.r P.d Q.ring :: boxR P.s (slCells P c.master Q.last) 90 :: mapNR 34 Row3.agg P.m Q.rows :: diskR P.d Q.D :: bxR P.b Q.B :: ledR P.l P.d c.step c.most Q.led :: boxR q4 #[.bool false] 4 :: boxR q5 #[.int .i64 0] 27 :: boxR q2 #[.pointer (some ⟨P.s,0,none⟩)] 26 :: boxR q3 #[.string ⟨d.toArray⟩] 9 :: L) | _ => False) (wpIn_wide.2 ?_) ?_
  · skip
    refine wp_region_held (S:=fun wx => wx.cell? ⟨P.s,4,none⟩ = some (.pointer (some ⟨P.r,0,none⟩)) ∧ wx.cell? ⟨q2,0,none⟩ = some (.pointer (some ⟨P.s,0,none⟩)) ∧ wx.cell? ⟨q3,0,none⟩ = some (.string ⟨d.toArray⟩)) (by kernel_rfl) ?_
    have hS0:=HFS.out _ [] HS0.out.drew
    refine wpAnyH_takeD (i:=0) 13 (v:=?_) rfl rfl (by kernel_rfl) (by kernel_rfl) (by kernel_rfl) (fun _ _ _ h => h) (Or.inl ⟨by rfl,?_⟩) hS0 ?_
    rotate_left 1
    · intro wS ⟨s0,s1,s2⟩
      go_simp
      try with_reducible rfl
    simp only [Act.put,List.setIfInBounds_toArray,List.set_cons_zero,List.set_cons_succ]
    refine wpAnyH_takeD (i:=1) 14 (v:=?_) rfl rfl (by kernel_rfl) (by kernel_rfl) (by kernel_rfl) (fun _ _ _ h => h) (Or.inl ⟨by rfl,?_⟩) hS0 ?_
    rotate_left 1
    · intro wS ⟨s0,s1,s2⟩
      go_simp
      try with_reducible rfl
    simp only [Act.put,List.setIfInBounds_toArray,List.set_cons_zero,List.set_cons_succ]
    refine wpAnyH_takeD (i:=2) 15 (v:=?_) rfl rfl (by kernel_rfl) (by kernel_rfl) (by kernel_rfl) (fun _ _ _ h => h) (Or.inl ⟨by rfl,?_⟩) hS0 ?_
    rotate_left 1
    · intro wS ⟨s0,s1,s2⟩
      go_simp
      try with_reducible rfl
    simp only [Act.put,List.setIfInBounds_toArray,List.set_cons_zero,List.set_cons_succ]
    refine wpAnyH_takeD (i:=3) 16 (v:=?_) rfl rfl (by kernel_rfl) (by kernel_rfl) (by kernel_rfl) (fun _ _ _ h => h) (Or.inl ⟨by rfl,?_⟩) hS0 ?_
    rotate_left 1
    · intro wS ⟨s0,s1,s2⟩
      go_simp
      try with_reducible rfl
    simp only [Act.put,List.setIfInBounds_toArray,List.set_cons_zero,List.set_cons_succ]
    refine wpAnyH_takeD (i:=4) 17 (v:=?_) rfl rfl (by kernel_rfl) (by kernel_rfl) (by kernel_rfl) (fun _ _ _ h => h) (Or.inl ⟨by rfl,?_⟩) hS0 ?_
    rotate_left 1
    · intro wS ⟨s0,s1,s2⟩
      go_simp
      try with_reducible rfl
    simp only [Act.put,List.setIfInBounds_toArray,List.set_cons_zero,List.set_cons_succ]
    refine wpAnyH_gen (fun a0 hA => ?_)
    have hsz : a0.tmps.size = 67:=by rw [← hA]; rfl
    have e16 : a0.eval (.tmp 16) = .pointer (some ⟨P.r,0,none⟩):=by rw [← hA]; rfl
    have e17 : a0.eval (.tmp 17) = .string ⟨d.toArray⟩:=by rw [← hA]; rfl
    refine wpAnyH_inv (by kernel_rfl) (fun l aq wx => (l 0 = true ∧ l 1 = true ∧ l 2 = true ∧ l 3 = true ∧ l 4 = true) ∧ ∃ (v18 v19 v6 : Value) (MA : List Res),aq = (((a0.put (some 18) v18).put (some 19) v19).put (some 6) v6) ∧ (l 6 = true → l 5 = true) ∧ (l 8 = true → l 6 = true) ∧ (l 8 = true → l 7 = true) ∧ (l 5 = true → v18 = .agg #[.int .u64 nw,.int .u64 od]) ∧ (l 6 = true → v19 = .int .u64 od) ∧ ((l 7 = true ∧ ∃ g,v6 = .pointer (some ⟨g,0,none⟩) ∧ MA = [boxR g (if l 8 then #[.int .u64 od] else #[.int .u64 0]) 34]) ∨ (l 7 = false ∧ MA = [])) ∧ Sp w0 [] wx (MA ++ (ringR P.r P.d Q.ring :: boxR P.s (slCells P c.master Q.last) 90 :: mapNR 34 Row3.agg P.m Q.rows :: diskR P.d Q.D :: bxR P.b Q.B :: ledR P.l P.d c.step c.most Q.led :: boxR q4 #[.bool false] 4 :: boxR q5 #[.int .i64 0] 27 :: boxR q2 #[.pointer (some ⟨P.s,0,none⟩)] 26 :: boxR q3 #[.string ⟨d.toArray⟩] 9 :: L))) ?_ ?_ _ _ _ _ (by kernel_rfl) (by kernel_rfl) ?_
    · rintro l aq wx i o ⟨hlt,v18,v19,v6,MA,rfl,k6_5,k8_6,k8_7,d5,d6,mA,S⟩ ho hl hpre
      have hi : i = 5 ∨ i = 6 ∨ i = 7 ∨ i = 8:=by
        have h1:=(Array.getElem?_eq_some_iff.1 ho).1
        simp at h1
        have n0 : i ≠ 0:=by rintro rfl; rw [hlt.1] at hl; cases hl
        have n1 : i ≠ 1:=by rintro rfl; rw [hlt.2.1] at hl; cases hl
        have n2 : i ≠ 2:=by rintro rfl; rw [hlt.2.2.1] at hl; cases hl
        have n3 : i ≠ 3:=by rintro rfl; rw [hlt.2.2.2.1] at hl; cases hl
        have n4 : i ≠ 4:=by rintro rfl; rw [hlt.2.2.2.2] at hl; cases hl
        omega
      rcases hi with rfl | rfl | rfl | rfl
      · cases ho
        refine ⟨rfl,?_⟩
        refine Oper.wp_mono (K:=fun a2 w2 => a2 = (((a0.put (some 18) v18).put (some 19) v19).put (some 6) v6).put (some 18) (.agg #[.int .u64 nw,.int .u64 od]) ∧ Sp w0 [] w2 (MA ++ (ringR P.r P.d Q.ring :: boxR P.s (slCells P c.master Q.last) 90 :: mapNR 34 Row3.agg P.m Q.rows :: diskR P.d Q.D :: bxR P.b Q.B :: ledR P.l P.d c.step c.most Q.led :: boxR q4 #[.bool false] 4 :: boxR q5 #[.int .i64 0] 27 :: boxR q2 #[.pointer (some ⟨P.s,0,none⟩)] 26 :: boxR q3 #[.string ⟨d.toArray⟩] 9 :: L))) ?_ ?_
        · rintro a2 w2 ⟨rfl,S2⟩
          exact ⟨HFS.out _ MA S2,⟨⟨flag_up hlt.1,flag_up hlt.2.1,flag_up hlt.2.2.1,flag_up hlt.2.2.2.1,flag_up hlt.2.2.2.2⟩,_,v19,v6,MA,by rw [put_turn _ 6 18 _ _ (by decide),put_turn _ 19 18 _ _ (by decide),put_over],fun h => flag_up (k6_5 (flag_dn rfl h)),fun h => flag_up (k8_6 (flag_dn rfl h)),fun h => flag_up (k8_7 (flag_dn rfl h)),fun _ => rfl,fun h => d6 (flag_dn rfl h),flag_box (fun c g => [boxR g (if c then #[.int .u64 od] else #[.int .u64 0]) 34]) rfl rfl mA,S2⟩⟩
        · have es0 : (((a0.put (some 18) v18).put (some 19) v19).put (some 6) v6).eval (.tmp 16) = .pointer (some ⟨P.r,0,none⟩):=by rw [evalP_ne _ 6 16 _ (by decide),evalP_ne _ 19 16 _ (by decide),evalP_ne _ 18 16 _ (by decide),e16]
          have es1 : (((a0.put (some 18) v18).put (some 19) v19).put (some 6) v6).eval (.tmp 17) = .string ⟨d.toArray⟩:=by rw [evalP_ne _ 6 17 _ (by decide),evalP_ne _ 19 17 _ (by decide),evalP_ne _ 18 17 _ (by decide),e17]
          generalize (((a0.put (some 18) v18).put (some 19) v19).put (some 6) v6) = a1 at *
          have et0 : a1.tmps[16]?.getD undef = .pointer (some ⟨P.r,0,none⟩):=by rw [← Array.getD_eq_getD_getElem?]; exact es0
          have et1 : a1.tmps[17]?.getD undef = .string ⟨d.toArray⟩:=by rw [← Array.getD_eq_getD_getElem?]; exact es1
          go_simp
          refine (HRS.out _ _ _ S).mono ?_
          rintro r w7 ⟨rfl,S7⟩
          exact ⟨rfl,S7⟩
      · cases ho
        refine ⟨rfl,?_⟩
        have h5 : l 5 = true:=hpre ⟨5,.data⟩ (by simp) rfl
        have dd:=d5 h5
        subst dd
        refine Oper.wp_mono (K:=fun a2 w2 => a2 = (((a0.put (some 18) (.agg #[.int .u64 nw,.int .u64 od])).put (some 19) v19).put (some 6) v6).put (some 19) (.int .u64 od) ∧ w2 = wx) ?_ ?_
        · rintro a2 w2 ⟨rfl,rfl⟩
          exact ⟨HFS.out _ MA S,⟨⟨flag_up hlt.1,flag_up hlt.2.1,flag_up hlt.2.2.1,flag_up hlt.2.2.2.1,flag_up hlt.2.2.2.2⟩,_,_,v6,MA,by rw [put_turn _ 6 19 _ _ (by decide),put_over],fun _ => flag_up h5,fun h => flag_up (k8_6 (flag_dn rfl h)),fun h => flag_up (k8_7 (flag_dn rfl h)),fun _ => rfl,fun _ => rfl,flag_box (fun c g => [boxR g (if c then #[.int .u64 od] else #[.int .u64 0]) 34]) rfl rfl mA,S⟩⟩
        · have es0 : (((a0.put (some 18) (.agg #[.int .u64 nw,.int .u64 od])).put (some 19) v19).put (some 6) v6).eval (.tmp 18) = .agg #[.int .u64 nw,.int .u64 od]:=by rw [evalP_ne _ 6 18 _ (by decide),evalP_ne _ 19 18 _ (by decide),evalP_same _ 18 _ (by (try simp only [sizeP]); rw [hsz]; decide)]
          generalize (((a0.put (some 18) (.agg #[.int .u64 nw,.int .u64 od])).put (some 19) v19).put (some 6) v6) = a1 at *
          have et0 : a1.tmps[18]?.getD undef = .agg #[.int .u64 nw,.int .u64 od]:=by rw [← Array.getD_eq_getD_getElem?]; exact es0
          have hfd : ∀ W : World,(Instr.field 53 (.agg #[.int .u64 nw,.int .u64 od]) 1).run Tryz.prog W = .ok (.int .u64 od) W:=fun W => by (show @Eq (Result Value) _ _; kernel_rfl)
          go_simp
      · cases ho
        refine ⟨rfl,?_⟩
        obtain rfl : MA = []:=by rcases mA with ⟨h,_⟩ | ⟨_,h⟩; rw [hl] at h; cases h; exact h
        have hT : l 8 = false:=by cases h : l 8 with | false => rfl | true => rw [k8_7 h] at hl; cases hl
        refine Oper.wp_mono (K:=fun a2 w2 => a2 = (((a0.put (some 18) v18).put (some 19) v19).put (some 6) v6).put (some 6) (.pointer (some ⟨wx.heap.size,0,none⟩)) ∧ w2 = wx.alloc (.cells #[.int .u64 0] 34)) ?_ ?_
        · rintro a2 w2 ⟨rfl,rfl⟩
          have S2:=S.box #[.int .u64 0] 34
          exact ⟨HFS.out _ [boxR wx.heap.size #[.int .u64 0] 34] S2,⟨⟨flag_up hlt.1,flag_up hlt.2.1,flag_up hlt.2.2.1,flag_up hlt.2.2.2.1,flag_up hlt.2.2.2.2⟩,v18,v19,_,[boxR wx.heap.size #[.int .u64 0] 34],by rw [put_over],fun h => flag_up (k6_5 (flag_dn rfl h)),fun h => flag_up (k8_6 (flag_dn rfl h)),(fun h => by rw [flag_dn (x:=8) rfl h] at hT; cases hT),fun h => d5 (flag_dn rfl h),fun h => d6 (flag_dn rfl h),.inl ⟨by simp,_,rfl,by simp [hT]⟩,S2⟩⟩
        · generalize (((a0.put (some 18) v18).put (some 19) v19).put (some 6) v6) = a1 at *
          go_simp
          try with_reducible rfl
      · obtain ⟨hg,hst,hdn⟩ : o.guard = none ∧ o.op = .store 34 (.tmp 6) (.tmp 19) ∧ o.dst = none:=by cases ho; exact ⟨by kernel_rfl,by kernel_rfl,by kernel_rfl⟩
        refine ⟨by cases ho; rfl,?_⟩
        have h6 : l 6 = true:=by cases ho; exact hpre ⟨6,.data⟩ (by simp) rfl
        have h7 : l 7 = true:=by cases ho; exact hpre ⟨7,.data⟩ (by simp) rfl
        clear hpre ho
        have dd:=d6 h6
        subst dd
        rcases mA with ⟨_,g,rfl,rfl⟩ | ⟨h,_⟩
        · rw [hl,if_neg (by simp)] at S
          have c1:=S.cell
          have f1:=S.free
          have S3:=S.set (o:=0) (.int .u64 od)
          simp only [List.setIfInBounds_toArray,List.set_cons_zero,List.set_cons_succ] at S3
          refine Oper.wp_mono (K:=fun a2 w2 => a2 = (((a0.put (some 18) v18).put (some 19) (.int .u64 od)).put (some 6) (.pointer (some ⟨g,0,none⟩))) ∧ w2 = wx.setCell ⟨g,0,none⟩ (.int .u64 od)) ?_ ?_
          · rintro a2 w2 ⟨rfl,rfl⟩
            exact ⟨HFS.out _ [boxR g #[.int .u64 od] 34] S3,⟨⟨flag_up hlt.1,flag_up hlt.2.1,flag_up hlt.2.2.1,flag_up hlt.2.2.2.1,flag_up hlt.2.2.2.2⟩,v18,_,_,[boxR g #[.int .u64 od] 34],rfl,fun h => flag_up (k6_5 (flag_dn rfl h)),fun _ => flag_up h6,fun _ => flag_up h7,fun h => d5 (flag_dn rfl h),fun _ => rfl,.inl ⟨flag_up h7,g,rfl,by simp⟩,S3⟩⟩
          · have es0 : (((a0.put (some 18) v18).put (some 19) (.int .u64 od)).put (some 6) (.pointer (some ⟨g,0,none⟩))).eval (.tmp 6) = .pointer (some ⟨g,0,none⟩):=by rw [evalP_same _ 6 _ (by (try simp only [sizeP]); rw [hsz]; decide)]
            have es1 : (((a0.put (some 18) v18).put (some 19) (.int .u64 od)).put (some 6) (.pointer (some ⟨g,0,none⟩))).eval (.tmp 19) = .int .u64 od:=by rw [evalP_ne _ 6 19 _ (by decide),evalP_same _ 19 _ (by (try simp only [sizeP]); rw [hsz]; decide)]
            generalize (((a0.put (some 18) v18).put (some 19) (.int .u64 od)).put (some 6) (.pointer (some ⟨g,0,none⟩))) = a1 at *
            have et0 : a1.tmps[6]?.getD undef = .pointer (some ⟨g,0,none⟩):=by rw [← Array.getD_eq_getD_getElem?]; exact es0
            have et1 : a1.tmps[19]?.getD undef = .int .u64 od:=by rw [← Array.getD_eq_getD_getElem?]; exact es1
            obtain ⟨dst0,op0,ty0,pos0,af0,gd0⟩:=o
            dsimp only at hg hst hdn
            subst hg hst hdn
            go_simp
        · rw [h7] at h; cases h
    · rintro l aq wx hl ⟨hlt,v18,v19,v6,MA,rfl,k6_5,k8_6,k8_7,d5,d6,mA,S⟩
      have e5:=hl 5 (by decide)
      have e6:=hl 6 (by decide)
      have e7:=hl 7 (by decide)
      have e8:=hl 8 (by decide)
      have dd:=d5 e5
      subst dd
      have dd:=d6 e6
      subst dd
      rcases mA with ⟨_,g,rfl,rfl⟩ | ⟨h,_⟩
      · rw [e8,if_pos rfl] at S
        rw [← hA]
        simp only [Act.put,List.setIfInBounds_toArray,List.set_cons_zero,List.set_cons_succ]
        exact ⟨g,rfl,S⟩
      · rw [e7] at h; cases h
    · refine ⟨⟨by rfl,by rfl,by rfl,by rfl,by rfl⟩,a0.tmps.getD 18 undef,a0.tmps.getD 19 undef,a0.tmps.getD 6 undef,[],?_,(fun h => by cases h),(fun h => by cases h),(fun h => by cases h),(fun h => by cases h),(fun h => by cases h),.inr ⟨rfl,rfl⟩,HS0.out.drew⟩
      rw [put_back a0 18 (by rw [hsz]; decide),put_back a0 19 (by rw [hsz]; decide),put_back a0 6 (by rw [hsz]; decide)]
  rintro e a2 w2 hp
  cases e with
  | panic _ => exact hp.elim
  | ret => exact hp.elim
  | exit _ => exact hp.elim
  | goto _ => exact hp.elim
  | outgrown => exact hp.elim
  | normal =>
  obtain ⟨q6,rfl,S6⟩:=hp
  have HSE : Hid (Sp w0 [] w2 (boxR P.s (slCells P c.master Q.last) 90 :: mapNR 34 Row3.agg P.m Q.rows :: diskR P.d Q.D :: bxR P.b Q.B :: ledR P.l P.d c.step c.most Q.led :: ringR P.r P.d Q.ring :: boxR q4 #[.bool false] 4 :: boxR q5 #[.int .i64 0] 27 :: boxR q2 #[.pointer (some ⟨P.s,0,none⟩)] 26 :: boxR q3 #[.string ⟨d.toArray⟩] 9 :: boxR q6 #[.int .u64 od] 34 :: L)):=(Sp.pick [_,_,_,_,_,_,_,_,_,_,_] [2,3,4,5,6,1,7,8,9,10,0] (by decide) (S6))
  clear S6 HRS HS0 HFS
  by_cases hod : od = 0
  · have hb : ((od : Int) == 0) = true:=by simpa using hod
    have HV2 : Hid (Q.step c d = (Q,false,10)):=HV.out.trans (if_pos hod)
    have c6:=((Sp.pick [_,_,_,_,_,_,_,_,_,_,_] [10,0,1,2,3,4,5,6,7,8,9] (by decide) (HSE.out))).cell
    have S4:=(Sp.pick [_,_,_,_,_,_,_,_,_,_,_] [6,0,1,2,3,4,5,7,8,9,10] (by decide) (HSE.out))
    have c4:=S4.cell
    have f4:=S4.free
    have S4b:=S4.set (o:=0) (.bool false)
    have S5:=(Sp.pick [_,_,_,_,_,_,_,_,_,_,_] [7,0,1,2,3,4,5,6,8,9,10] (by decide) (S4b))
    have c5:=S5.cell
    have f5:=S5.free
    have S6:=S5.set (o:=0) (.int .i64 10)
    have S7:=(Sp.pick [_,_,_,_,_,_,_,_,_,_,_] [2,3,4,5,6,7,1,0,8,9,10] (by decide) (S6))
    have d4:=((Sp.pick [_,_,_,_,_,_,_,_,_,_,_] [6,0,1,2,3,4,5,7,8,9,10] (by decide) (S7))).cell
    have d5:=((Sp.pick [_,_,_,_,_,_,_,_,_,_,_] [7,0,1,2,3,4,5,6,8,9,10] (by decide) (S7))).cell
    have HZ:=Lib.hid ((Sp.pick [_,_,_,_,_,_,_,_,_,_,_] [0,1,2,3,4,5] (by decide) (S7)))
    clear S4 S4b S5 S6 S7 HSE hod HV
    gi_wp2
    exact ⟨.tuple #[.bool false,.int .i64 10],by simp [results,Tryz.results12,go_sem,d4,d5],by rw [HV2.out],by rw [HV2.out]; exact HZ.out⟩
  have hb : ((od : Int) == 0) = false:=by simp only [beq_eq_false_iff_ne]; omega
  have HOD:=Lib.hid hod
  have HV1 : Hid (Q.step c d = match slElder Q.rows d od Q.ids with
    | some id => if (Q.load c.master id).2.2.2 = 0 then (((Q.load c.master id).1.write c (Q.load c.master id).2.1 (Q.load c.master id).2.2.1).1,false,((Q.load c.master id).1.write c (Q.load c.master id).2.1 (Q.load c.master id).2.2.1).2)
      else if (Q.load c.master id).2.2.2 = 20 then ((Q.load c.master id).1,false,0) else ((Q.load c.master id).1,false,(Q.load c.master id).2.2.2)
    | none => ({ Q with D:=(ringEnd Q.D Q.ring d).1,ring:=(ringEnd Q.D Q.ring d).2.1 },decide ((ringEnd Q.D Q.ring d).2.2 = 0),(ringEnd Q.D Q.ring d).2.2)):=HV.out.trans (if_neg hod)
  have c6:=((Sp.pick [_,_,_,_,_,_,_,_,_,_,_] [10,0,1,2,3,4,5,6,7,8,9] (by decide) (HSE.out))).cell
  have c2:=((Sp.pick [_,_,_,_,_,_,_,_,_,_,_] [8,0,1,2,3,4,5,6,7,9,10] (by decide) (HSE.out))).cell
  clear hod HV
  gi_wp2_with fail
  refine ⟨trivial,(callsIn_wide.2 (allS P.s HSE.out)).mono ?_⟩
  rintro e w2 ⟨g,rfl,S⟩
  have HS3 : Hid (Sp w0 [] w2 ((pureR (slElder Q.rows d od [] = none) :: stepPs P c q2 q3 q4 q5 q6 d od Q false 0 L) ++ [boxR g #[.pointer (some ⟨P.s,0,none⟩)] 26])):=by
    have S2:=(S.pure (q:=slElder Q.rows d od [] = none) rfl).pull1
    exact S2.perm (List.perm_append_comm (l₁:=[_]))
  clear S HSE c2 c6
  obtain ⟨ids,hids⟩ : ∃ ids,Q.ids = ids:=⟨_,rfl⟩
  have hids' : Q.rows.map (·.1) = ids:=hids
  rw [hids] at HV1
  have HIDS:=Lib.hid hids'
  have HIB : Hid (∀ id ∈ ids,id ≤ 1099511627776):=fun id hid => by
    rw [← hids'] at hid
    obtain ⟨p,hp,rfl⟩:=List.mem_map.1 hid
    exact (HOK.out.fit p hp).1
  clear hids hids'
  gi_wp2_with fail
  refine wpIn_rangeFunc_sp (α:=Nat) (β:=Sq × Int) rfl (by omega) (gf:=71) (lb:=#[.pointer (some ⟨g,0,none⟩)]) rfl trivial (enters_of Tryz.func71 (by kernel_rfl) rfl) (encs:=encsU) (fun _ => rfl)
    (A:=fun pre => pureR (slElder Q.rows d od pre = none) :: stepPs P c q2 q3 q4 q5 q6 d od Q false 0 L)
    (K0:=[boxR g #[.pointer (some ⟨P.s,0,none⟩)] 26])
    (Y:=fun xs => xs <+: ids) (T:=fun xs => xs = ids) ?hseq
    (fun _ y => stepPs P c q2 q3 q4 q5 q6 d od y.1 false y.2 L)
    (fun cd y => cd = .ret ∧ Q.step c d = (y.1,false,y.2)) HS3.out
    (fun x => { tmps:=#[.pointer (some ⟨P.s,0,none⟩),.string ⟨d.toArray⟩,.pointer (some ⟨q2,0,none⟩),.pointer (some ⟨q3,0,none⟩),.pointer (some ⟨q4,0,none⟩),.pointer (some ⟨q5,0,none⟩),.pointer (some ⟨q6,0,none⟩),.int .u64 x,undef,undef,undef,undef,undef,.pointer (some ⟨P.s,0,none⟩),.pointer (some ⟨P.s,0,none⟩),.pointer (some ⟨P.s,4,none⟩),.pointer (some ⟨P.r,0,none⟩),.string ⟨d.toArray⟩,.agg #[.int .u64 nw,.int .u64 od],.int .u64 od,.int .u64 od,.bool false,.pointer (some ⟨P.s,0,none⟩),.func (.func 71) #[] #[.pointer (some ⟨g,0,none⟩)],.int .u64 x,undef,undef,undef,undef,undef,undef,undef,undef,undef,undef,undef,undef,undef,undef,undef,undef,undef,undef,undef,undef,undef,undef,undef,undef,undef,undef,undef,undef,undef,undef,undef,undef,undef,undef,undef,undef,undef,undef,undef,undef,undef,undef],defers:=[] }) ?assign ?body ?done ?stop
  case hseq =>
    exact allIter P.s g (slCells P c.master Q.last) rfl (by have:=HOK.out.len; have:=HN.out; omega) ids HIDS.out _ _ (pureR (slElder Q.rows d od [] = none) :: diskR P.d Q.D :: bxR P.b Q.B :: ledR P.l P.d c.step c.most Q.led :: ringR P.r P.d Q.ring :: boxR q4 #[.bool false] 4 :: boxR q5 #[.int .i64 0] 27 :: boxR q2 #[.pointer (some ⟨P.s,0,none⟩)] 26 :: boxR q3 #[.string ⟨d.toArray⟩] 9 :: boxR q6 #[.int .u64 od] 34 :: L) (by
      show (pureR (slElder Q.rows d od [] = none) :: stepPs P c q2 q3 q4 q5 q6 d od Q false 0 L ++ [boxR g #[.pointer (some ⟨P.s,0,none⟩)] 26]).Perm _
      unfold stepPs slPs
      refine (List.perm_append_comm (l₂:=[_])).trans (List.Perm.cons _ ?_)
      refine (List.perm_middle (l₁:=[_])).trans (List.Perm.cons _ ?_)
      exact (List.perm_middle (l₁:=[_])))
  case assign =>
    intro l x W K hK
    unfold encsU
    gi_wp2
    exact hK
  case body =>
    intro l pre x K W hy hS
    have hS' : Sp w0 [] W (pureR (slElder Q.rows d od pre = none) :: stepPs P c q2 q3 q4 q5 q6 d od Q false 0 (L ++ K)):=hS
    have HPO:=Lib.hid hS'.sure
    have hS2:=hS'.drop
    unfold stepPs at hS2
    have hx1:=HIB.out x (hy.subset (by simp))
    have HYP:=Lib.hid hy
    have hlk:=hS2.pull1.mapN.look (t:=88) keyedN Tryz.underlying88 (zeroRow3 _) (keyNum x (by omega))
    have hr : ((Q.rows.get x).map Row3.agg).getD (Row3.agg ⟨[],0,0⟩) = (rowAt Q.rows x).agg:=by unfold rowAt; cases Q.rows.get x <;> rfl
    rw [hr] at hlk
    have HEL : Hid (slElder Q.rows d od [x] = if (rowAt Q.rows x).dom = d ∧ (rowAt Q.rows x).ep = od then some x else none):=rfl
    have HLD:=Lib.hid (fun (w' : World) (K' : List Res) (S' : Sp w0 [] w' (slPs P c Q K')) => slLoadS x n (by omega) HOK.out (by have:=HN.out; omega) HE.out S')
    have h1:=HOK.out.load x
    have hlo : (Q.load c.master x).2.2.2 = 0 → enMay (Q.load c.master x).2.1 = true:=fun hz => by
      obtain ⟨_,hr,e⟩:=load_ok hz
      rw [e]
      exact (open_ok hr).1
    have HW:=Lib.hid (fun (hz : (Q.load c.master x).2.2.2 = 0) (w' : World) (va : Option Addr) (vc : Nat) (K' : List Res) (S' : Sp w0 [] w' (slPs P c (Q.load c.master x).1 (tosR (.slice va (Q.load c.master x).2.1.rcs.length vc) (Q.load c.master x).2.1.rcs :: K'))) =>
      slWriteS (v:=.slice va (Q.load c.master x).2.1.rcs.length vc) (Q.load c.master x).2.1 (Q.load c.master x).2.2.1 (n + 404) (enMay_parts (hlo hz)).id.2 (enMay_parts (hlo hz)).dom (enMay_fit (hlo hz)) h1 (by have:=HN.out; omega) HE.out (fun w2 X SX => (Sp.drops X SX).tosAt) S')
    have c2:=((Sp.pick [_,_,_,_,_,_,_,_,_,_,_] [8,0,1,2,3,4,5,6,7,9,10] (by decide) (hS2))).cell
    have c3:=((Sp.pick [_,_,_,_,_,_,_,_,_,_,_] [9,0,1,2,3,4,5,6,7,8,10] (by decide) (hS2))).cell
    have c6:=((Sp.pick [_,_,_,_,_,_,_,_,_,_,_] [10,0,1,2,3,4,5,6,7,8,9] (by decide) (hS2))).cell
    have cs:=hS2.cell
    unfold slCells at cs
    generalize hrr : rowAt Q.rows x = rr at *
    obtain ⟨rd,rn,ro⟩:=rr
    unfold Row3.agg at hlk
    dsimp only at *
    have S2:=hS2.new (.cells #[.string ⟨rd.toArray⟩,.int .u64 rn,.int .u64 ro] 107)
    have c2b:=((Sp.pick [_,_,_,_,_,_,_,_,_,_,_] [8,0,1,2,3,4,5,6,7,9,10] (by decide) (S2))).cell
    have c3b:=((Sp.pick [_,_,_,_,_,_,_,_,_,_,_] [9,0,1,2,3,4,5,6,7,8,10] (by decide) (S2))).cell
    have c6b:=((Sp.pick [_,_,_,_,_,_,_,_,_,_,_] [10,0,1,2,3,4,5,6,7,8,9] (by decide) (S2))).cell
    have HS2:=Lib.hid S2
    clear hS hS' hS2 S2 hy hx1 hr h1 hlo hrr
    by_cases hit : rd = d ∧ rn = od
    rotate_left 1
    · have hno : slElder Q.rows d od [x] = none:=HEL.out.trans (if_neg hit)
      have HNX : Hid (slElder Q.rows d od (pre ++ [x]) = none):=by unfold Hid; rw [slElder_app _ _ _ _ _ HPO.out]; exact hno
      clear hno HEL HLD HW
      by_cases h1 : rd = d
      · have hb1 : (rd == d) = true:=by simpa using h1
        have hb2 : ((rn : Int) == (od : Int)) = false:=by
          have : rn ≠ od:=fun h => hit ⟨h1,h⟩
          simp only [beq_eq_false_iff_ne]
          omega
        have hb3 : ((rn : Int) != (od : Int)) = true:=by simp [bne,hb2]
        clear hit h1
        gi_wp2
        show Sp w0 [] _ ((pureR (slElder Q.rows d od (pre ++ [x]) = none) :: stepPs P c q2 q3 q4 q5 q6 d od Q false 0 L) ++ K)
        exact HS2.out.pure HNX.out
      · have hb1 : (rd == d) = false:=by simpa using h1
        clear hit h1
        gi_wp2
        show Sp w0 [] _ ((pureR (slElder Q.rows d od (pre ++ [x]) = none) :: stepPs P c q2 q3 q4 q5 q6 d od Q false 0 L) ++ K)
        exact HS2.out.pure HNX.out
    obtain ⟨rfl,rfl⟩:=hit
    have hb1 : (rd == rd) = true:=by simp
    have hb3 : ((rn : Int) != (rn : Int)) = false:=by simp
    have HFO : Hid (slElder Q.rows rd rn ids = some x):=by
      unfold Hid
      obtain ⟨k,hk⟩:=HYP.out
      rw [← hk,List.append_assoc,slElder_app _ _ _ _ _ HPO.out]
      have:=HEL.out
      rw [if_pos ⟨rfl,rfl⟩] at this
      unfold slElder at this ⊢
      simp only [List.singleton_append]
      unfold slElder
      split at this
      · rename_i hx
        rw [if_pos hx]
      · cases this
    rw [HFO.out] at HV1
    dsimp only at HV1
    gi_wp2_with fail
    refine ⟨trivial,(CallsIn.inRound l (callsIn_wide.2 (HLD.out _ _ HS2.out))).mono ?_⟩
    generalize Q.load c.master x = lo at *
    obtain ⟨Q2,⟨xi,xd,xe,xc,xf,xr,xb,xn,xt⟩,body,er⟩:=lo
    dsimp only at *
    rintro e w3 ⟨vx,rfl,S⟩
    obtain ⟨va,vc,rfl⟩:=S.tosAt.form
    unfold enAgg
    dsimp only
    unfold slPs at S
    have S5:=S.box #[.int .u64 xi,.string ⟨xd.toArray⟩,.int .u64 xe,.int .u64 xc,.string ⟨xf.1.toArray⟩,.string ⟨xf.2.toArray⟩,.slice va xr.length vc,.int .u64 xb,.int .u64 xn,.int .i64 xt] 40
    have c9:=S5.cell
    have c2c:=((Sp.pick [_,_,_,_,_,_,_,_,_,_,_,_,_] [10,0,1,2,3,4,5,6,7,8,9,11,12] (by decide) (S5))).cell
    have HS5:=Lib.hid ((Sp.pick [_,_,_,_,_,_,_,_,_,_,_,_,_] [2,3,4,5,6,7,1,8,9,10,11,12] (by decide) (S5)))
    clear S S5 HS2 HLD c2 c3 c6 cs c2b c3b c6b hlk hb1 hb3 HPO HEL HFO HYP
    by_cases he : er = 0
    · subst he
      rw [if_pos rfl] at HV1
      have HW2:=Lib.hid (HW.out rfl)
      clear HW
      generalize Q2.write c ⟨xi,xd,xe,xc,xf,xr,xb,xn,xt⟩ body = wo at *
      obtain ⟨Q3,ew⟩:=wo
      unfold enAgg at HW2
      dsimp only at *
      gi_wp2_with fail
      refine ⟨trivial,(CallsIn.inRound l (callsIn_wide.2 (HW2.out _ va vc _ HS5.out))).mono ?_⟩
      rintro e w4 ⟨rfl,S⟩
      unfold slPs at S
      have S4:=(Sp.pick [_,_,_,_,_,_,_,_,_,_,_,_] [7,0,1,2,3,4,5,6,8,9,10,11] (by decide) (S))
      have c4:=S4.cell
      have f4:=S4.free
      have S4b:=S4.set (o:=0) (.bool false)
      have S5:=(Sp.pick [_,_,_,_,_,_,_,_,_,_,_,_] [8,0,1,2,3,4,5,6,7,9,10,11] (by decide) (S4b))
      have c5:=S5.cell
      have f5:=S5.free
      have S6:=S5.set (o:=0) (.int .i64 ew)
      have S7:=(Sp.pick [_,_,_,_,_,_,_,_,_,_,_,_] [2,3,4,5,6,7,8,1,0,9,10,11] (by decide) (S6))
      have HS7:=Lib.hid ((Sp.pick [_,_,_,_,_,_,_,_,_,_,_,_] [0,1,2,3,4,5,7,8,9,10,11] (by decide) (S7)))
      clear S S4 S4b S5 S6 S7 HS5 HW2 c9 c2c
      gi_wp2
      exact ⟨(Q3,ew),⟨rfl,HV1.out⟩,HS7.out⟩
    · rw [if_neg he] at HV1
      have hb4 : ((er : Int) == 0) = false:=by simpa using he
      by_cases h20 : er = 20
      · subst h20
        rw [if_pos rfl] at HV1
        have S4:=(Sp.pick [_,_,_,_,_,_,_,_,_,_,_,_] [7,0,1,2,3,4,5,6,8,9,10,11] (by decide) (HS5.out))
        have c4:=S4.cell
        have f4:=S4.free
        have S4b:=S4.set (o:=0) (.bool false)
        have S5:=(Sp.pick [_,_,_,_,_,_,_,_,_,_,_,_] [8,0,1,2,3,4,5,6,7,9,10,11] (by decide) (S4b))
        have c5:=S5.cell
        have f5:=S5.free
        have S6:=S5.set (o:=0) (.int .i64 0)
        have S7:=(Sp.pick [_,_,_,_,_,_,_,_,_,_,_,_] [2,3,4,5,6,7,8,1,0,9,10,11] (by decide) (S6))
        have HS7:=Lib.hid ((Sp.pick [_,_,_,_,_,_,_,_,_,_,_,_] [0,1,2,3,4,5,7,8,9,10,11] (by decide) (S7)))
        clear S4 S4b S5 S6 S7 HS5 HW c9 c2c he
        gi_wp2
        exact ⟨(Q2,0),⟨rfl,HV1.out⟩,HS7.out⟩
      · rw [if_neg h20] at HV1
        have hb5 : ((er : Int) == 20) = false:=by simpa using h20
        have S4:=(Sp.pick [_,_,_,_,_,_,_,_,_,_,_,_] [7,0,1,2,3,4,5,6,8,9,10,11] (by decide) (HS5.out))
        have c4:=S4.cell
        have f4:=S4.free
        have S4b:=S4.set (o:=0) (.bool false)
        have S5:=(Sp.pick [_,_,_,_,_,_,_,_,_,_,_,_] [8,0,1,2,3,4,5,6,7,9,10,11] (by decide) (S4b))
        have c5:=S5.cell
        have f5:=S5.free
        have S6:=S5.set (o:=0) (.int .i64 er)
        have S7:=(Sp.pick [_,_,_,_,_,_,_,_,_,_,_,_] [2,3,4,5,6,7,8,1,0,9,10,11] (by decide) (S6))
        have HS7:=Lib.hid ((Sp.pick [_,_,_,_,_,_,_,_,_,_,_,_] [0,1,2,3,4,5,7,8,9,10,11] (by decide) (S7)))
        clear S4 S4b S5 S6 S7 HS5 HW c9 c2c he h20
        gi_wp2
        exact ⟨(Q2,er),⟨rfl,HV1.out⟩,HS7.out⟩
  case done =>
    intro D xs K W hT hS
    subst hT
    have hS' : Sp w0 [] W (objR D (.deferred (some [])) :: pureR (slElder Q.rows d od xs = none) :: stepPs P c q2 q3 q4 q5 q6 d od Q false 0 (L ++ (boxR g #[.pointer (some ⟨P.s,0,none⟩)] 26 :: K))):=hS
    have hnone:=hS'.pull1.sure
    rw [hnone] at HV1
    dsimp only at HV1
    have HRE:=Lib.hid (fun (w' : World) (K' : List Res) (S' : Sp w0 [] w' (ringR P.r P.d Q.ring :: diskR P.d Q.D :: K')) => ringEndS d n Q.D S' HD.out (HOK.out.ringOk (by have:=HN.out; omega)) HOK.out.room (by have:=HN.out; omega))
    have S2:=hS'.pull1.drop
    unfold stepPs slPs at S2
    generalize ringEnd Q.D Q.ring d = rb at *
    obtain ⟨D2,M2,er⟩:=rb
    dsimp only at *
    have HS2:=Lib.hid ((Sp.pick [_,_,_,_,_,_,_,_,_,_,_,_] [6,3,0,1,2,4,5,7,8,9,10,11] (by decide) (S2)))
    clear hS hS' hnone S2 HS3 HIDS HIB
    gi_wp2_with fail
    refine wpIn_wide.2 ?_
    refine wp_region_chainG [0,1,2,3,4,5,6] (fun c => c == 5) (fun c => false) (T:=fun wx => wx.cell? ⟨P.s,4,none⟩ = some (.pointer (some ⟨P.r,0,none⟩)) ∧ wx.cell? ⟨q2,0,none⟩ = some (.pointer (some ⟨P.s,0,none⟩)) ∧ wx.cell? ⟨q3,0,none⟩ = some (.string ⟨d.toArray⟩)) (S:=fun wx => Sp w0 [] wx (ringR P.r P.d Q.ring :: diskR P.d Q.D :: objR D (.deferred (some [])) :: boxR P.s (slCells P c.master Q.last) 90 :: mapNR 34 Row3.agg P.m Q.rows :: bxR P.b Q.B :: ledR P.l P.d c.step c.most Q.led :: boxR q4 #[.bool false] 4 :: boxR q5 #[.int .i64 0] 27 :: boxR q2 #[.pointer (some ⟨P.s,0,none⟩)] 26 :: boxR q3 #[.string ⟨d.toArray⟩] 9 :: boxR q6 #[.int .u64 od] 34 :: (L ++ (boxR g #[.pointer (some ⟨P.s,0,none⟩)] 26 :: K)))) (by kernel_rfl) (by kernel_rfl) (by kernel_rfl) HS2.out.drew (fun x h => ⟨((Sp.pick [_,_,_,_,_,_,_,_,_,_,_,_] [3] (by decide) (h))).cell 4,((Sp.pick [_,_,_,_,_,_,_,_,_,_,_,_] [9] (by decide) (h))).cell 0,((Sp.pick [_,_,_,_,_,_,_,_,_,_,_,_] [10] (by decide) (h))).cell 0⟩) ?_
    repeat
      refine Exists.intro _ (And.intro rfl (Or.inl (Exists.intro ?_ (And.intro (fun wS hS K hK => ?_) (And.intro ?_ ?_)))))
      rotate_left 1
      · obtain ⟨t0,t1,t2⟩:=hS
        first
          | (refine if_unwanted rfl ?_; simp only [Act.put,List.setIfInBounds_toArray,List.set_cons_zero,List.set_cons_succ]; exact hK.out)
          | (refine if_wanted rfl ?_; go_simp; exact hK.out)
      · rfl
    refine ChainG.one rfl rfl rfl (fun wS hS R hR => ?_)
    go_simp
    go_at_call 42
    refine (HRE.out _ _ hS).mono ?_
    rintro e w7 ⟨rfl,S7⟩
    refine hR.out _ _ rfl (fun wx => wx.cell? ⟨P.s,4,none⟩ = some (.pointer (some ⟨P.r,0,none⟩)) ∧ wx.cell? ⟨q2,0,none⟩ = some (.pointer (some ⟨P.s,0,none⟩)) ∧ wx.cell? ⟨q3,0,none⟩ = some (.string ⟨d.toArray⟩)) (fun wx => Sp w0 [] wx (ringR P.r P.d M2 :: diskR P.d D2 :: objR D (.deferred (some [])) :: boxR P.s (slCells P c.master Q.last) 90 :: mapNR 34 Row3.agg P.m Q.rows :: bxR P.b Q.B :: ledR P.l P.d c.step c.most Q.led :: boxR q4 #[.bool false] 4 :: boxR q5 #[.int .i64 0] 27 :: boxR q2 #[.pointer (some ⟨P.s,0,none⟩)] 26 :: boxR q3 #[.string ⟨d.toArray⟩] 9 :: boxR q6 #[.int .u64 od] 34 :: (L ++ (boxR g #[.pointer (some ⟨P.s,0,none⟩)] 26 :: K)))) S7 (fun x h => ⟨((Sp.pick [_,_,_,_,_,_,_,_,_,_,_,_] [3] (by decide) (h))).cell 4,((Sp.pick [_,_,_,_,_,_,_,_,_,_,_,_] [9] (by decide) (h))).cell 0,((Sp.pick [_,_,_,_,_,_,_,_,_,_,_,_] [10] (by decide) (h))).cell 0⟩) (fun _ h => h) ?_
    clear hR hS S7
    repeat
      refine Exists.intro _ (And.intro rfl (Or.inl (Exists.intro ?_ (And.intro (fun wS hS K hK => ?_) (And.intro ?_ ?_)))))
      rotate_left 1
      · obtain ⟨t0,t1,t2⟩:=hS
        first
          | (refine if_unwanted rfl ?_; simp only [Act.put,List.setIfInBounds_toArray,List.set_cons_zero,List.set_cons_succ]; exact hK.out)
          | (refine if_wanted rfl ?_; go_simp; exact hK.out)
      · rfl
    intro wE hE
    have HSE:=Lib.hid hE
    clear hE
    clear HS2 HRE
    by_cases he : er = 0
    · subst he
      have S4:=(Sp.pick [_,_,_,_,_,_,_,_,_,_,_,_] [7,0,1,2,3,4,5,6,8,9,10,11] (by decide) (HSE.out))
      have c4:=S4.cell
      have f4:=S4.free
      have S4b:=S4.set (o:=0) (.bool true)
      have S5:=(Sp.pick [_,_,_,_,_,_,_,_,_,_,_,_] [8,0,1,2,3,4,5,6,7,9,10,11] (by decide) (S4b))
      have c5:=S5.cell
      have f5:=S5.free
      have S6:=S5.set (o:=0) (.int .i64 0)
      have S7:=(Sp.pick [_,_,_,_,_,_,_,_,_,_,_,_] [2,3,4,5,6,7,8,1,0,9,10,11] (by decide) (S6))
      have hK:=((Sp.pick [_,_,_,_,_,_,_,_,_,_,_,_] [2,0,1,3,4,5,6,7,8,9,10,11] (by decide) (S7))).objAt
      have S9:=((Sp.pick [_,_,_,_,_,_,_,_,_,_,_,_] [2,0,1,3,4,5,6,7,8,9,10,11] (by decide) (S7))).objPut (.deferred none)
      have d4:=((Sp.pick [_,_,_,_,_,_,_,_,_,_,_,_] [7] (by decide) (S9))).cell
      have d5:=((Sp.pick [_,_,_,_,_,_,_,_,_,_,_,_] [8] (by decide) (S9))).cell
      have h9:=(Sp.pick [_,_,_,_,_,_,_,_,_,_,_,_] [3,4,2,5,6,1] (by decide) (S9))
      have HZ:=Lib.hid (Sp.lastOff (A:=slPs P c { Q with D:=D2,ring:=M2 } L) h9)
      clear h9 S4 S4b S5 S6 S7 S9 HSE
      gi_wp2
      refine ⟨by simp,.inl ⟨_,_,rfl,run_takeDeferred hK,?_⟩⟩
      exact ⟨.tuple #[.bool true,.int .i64 0],by simp [results,Tryz.results12,go_sem,d4,d5],by rw [HV1.out]; simp,by rw [HV1.out]; exact HZ.out⟩
    · have hb4 : ((er : Int) != 0) = true:=by simpa using he
      have S4:=(Sp.pick [_,_,_,_,_,_,_,_,_,_,_,_] [7,0,1,2,3,4,5,6,8,9,10,11] (by decide) (HSE.out))
      have c4:=S4.cell
      have f4:=S4.free
      have S4b:=S4.set (o:=0) (.bool false)
      have S5:=(Sp.pick [_,_,_,_,_,_,_,_,_,_,_,_] [8,0,1,2,3,4,5,6,7,9,10,11] (by decide) (S4b))
      have c5:=S5.cell
      have f5:=S5.free
      have S6:=S5.set (o:=0) (.int .i64 er)
      have S7:=(Sp.pick [_,_,_,_,_,_,_,_,_,_,_,_] [2,3,4,5,6,7,8,1,0,9,10,11] (by decide) (S6))
      have hK:=((Sp.pick [_,_,_,_,_,_,_,_,_,_,_,_] [2,0,1,3,4,5,6,7,8,9,10,11] (by decide) (S7))).objAt
      have S9:=((Sp.pick [_,_,_,_,_,_,_,_,_,_,_,_] [2,0,1,3,4,5,6,7,8,9,10,11] (by decide) (S7))).objPut (.deferred none)
      have d4:=((Sp.pick [_,_,_,_,_,_,_,_,_,_,_,_] [7] (by decide) (S9))).cell
      have d5:=((Sp.pick [_,_,_,_,_,_,_,_,_,_,_,_] [8] (by decide) (S9))).cell
      have h9:=(Sp.pick [_,_,_,_,_,_,_,_,_,_,_,_] [3,4,2,5,6,1] (by decide) (S9))
      have HZ:=Lib.hid (Sp.lastOff (A:=slPs P c { Q with D:=D2,ring:=M2 } L) h9)
      have HNE:=Lib.hid he
      clear h9 S4 S4b S5 S6 S7 S9 HSE he
      gi_wp2
      refine ⟨by simp,.inl ⟨_,_,rfl,run_takeDeferred hK,?_⟩⟩
      exact ⟨.tuple #[.bool false,.int .i64 er],by simp [results,Tryz.results12,go_sem,d4,d5],by rw [HV1.out]; simp [HNE.out],by rw [HV1.out]; exact HZ.out⟩
  case stop =>
    rintro D cd y K W ⟨rfl,hq⟩ hS
    obtain ⟨Q3,ew⟩:=y
    have hS' : Sp w0 [] W (objR D (.deferred (some [])) :: stepPs P c q2 q3 q4 q5 q6 d od Q3 false ew (L ++ K)):=hS
    have hK:=hS'.objAt
    have S2:=hS'.objPut (.deferred none)
    unfold stepPs slPs at S2
    have d4:=((Sp.pick [_,_,_,_,_,_,_,_,_,_,_,_] [7] (by decide) (S2))).cell
    have d5:=((Sp.pick [_,_,_,_,_,_,_,_,_,_,_,_] [8] (by decide) (S2))).cell
    have h9:=(Sp.pick [_,_,_,_,_,_,_,_,_,_,_,_] [1,2,3,4,5,6] (by decide) (S2))
    have HZ:=Lib.hid (Sp.lastOff (A:=slPs P c Q3 L) h9)
    have HQ:=Lib.hid hq
    clear h9 hS hS' S2 HS3 HIDS HIB hq
    gi_wp2
    refine ⟨by simp,.inl ⟨_,_,rfl,run_takeDeferred hK,?_⟩⟩
    exact ⟨.tuple #[.bool false,.int .i64 ew],by simp [results,Tryz.results12,go_sem,d4,d5],by rw [HQ.out],by rw [HQ.out]; exact HZ.out⟩
end
end
end Go.Proofs.YtangbdahnmomlaaGreatDoor
