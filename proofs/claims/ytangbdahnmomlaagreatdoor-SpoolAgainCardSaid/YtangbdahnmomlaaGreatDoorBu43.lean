/- spool, plainly: removed, turned, on a disk that nothing breaks. No program. spool, plainly: opened again; opened first. No program. spool, plainly: acts in a row, how few rows and files there are; the first opening. No program. -/
import Derived.Test.YtangbdahnmomlaaGreatDoorBu18
import Derived.Test.YtangbdahnmomlaaGreatDoorBu41
import Derived.Test.YtangbdahnmomlaaGreatDoorBu42
set_option linter.unnecessarySimpa false
set_option linter.unusedSimpArgs false
set_option linter.unusedVariables false
namespace Go.Proofs.YtangbdahnmomlaaGreatDoor
section
open Go.RowKit Go.Maps
theorem ringState_put3 (M : Mp RSt) (x : Bs) (s : RSt) (d : Bs) : ringState (M.put x s) d = if x = d then s else ringState M d:=by
  unfold ringState
  rw [Mp.get_put]
  split <;> rfl
theorem slElder_none {M : Mn Row3} {d : Bs} {o : Nat} : ∀ {l : List Nat},slElder M d o l = none → ∀ id ∈ l,¬ ((rowAt M id).dom = d ∧ (rowAt M id).ep = o)
  | x :: l,h,id,hid => by
    unfold slElder at h
    split at h
    · cases h
    · rename_i hx
      rcases List.mem_cons.1 hid with rfl | hid
      · exact hx
      · exact slElder_none h id hid
theorem Did.top {D : Dk} {F : Fs} {R : Dk × Int} (h : Did D F R) (hH : Hist (fun _ => True) D) : Hist (fun _ => True) R.1:=by
  rcases h.good hH (fun _ h => h) trivial with ⟨g1,_⟩ | ⟨_,_,g⟩ | ⟨_,_,_,g⟩
  · rw [g1]; exact hH
  · exact g
  · exact g
section
variable {m : Bs} {Q : Sq} {c : Sc} {n : Nat}
theorem id_mem {id : Nat} {r : Row3} (h : Q.rows.get id = some r) : id ∈ Q.ids:=by
  unfold Sq.ids
  exact List.mem_map.2 ⟨(id,r),Mn.get_mem h,rfl⟩
theorem Up.remove (h : Up m Q) (hok : SlOk c n Q) (id : Nat) : Up m (Q.remove id).1:=by
  rw [remove_eq]
  split
  · exact h
  · rename_i hh
    obtain ⟨r,hr⟩ : ∃ r,Q.rows.get id = some r:=by
      rw [Mn.has_eq] at hh
      cases hg : Q.rows.get id with
      | none => rw [hg] at hh; exact absurd rfl hh
      | some r => exact ⟨r,rfl⟩
    obtain ⟨lf,hg⟩:=h.good
    have hra:=rowAt_get hr
    have hfit:=hok.fit _ (Mn.get_mem hr)
    have hsl : slFile Q.rows id = fileB id r.ep r.cnt:=by unfold slFile; rw [hra]
    rw [hra,hsl,lay_sync]
    have hI:=addSync_keep indexB Q.D indexB (slRow id ⟨r.dom,0,0⟩) h.calm
    have hR:=addSync_keep ringB Q.D indexB (slRow id ⟨r.dom,0,0⟩) h.calm
    have hL:=addSync_keep ledB Q.D indexB (slRow id ⟨r.dom,0,0⟩) h.calm
    have hT:=(addSync_did Q.D indexB (slRow id ⟨r.dom,0,0⟩)).top hg.hist
    rcases (addSync_did Q.D indexB (slRow id ⟨r.dom,0,0⟩)).alive h.calm.1 h.calm.2 with ⟨k1,k2,_⟩ | ⟨k1,k2,k3,k4,_⟩
    · rw [if_pos k2,if_pos k2,k1]
      exact h
    · have hk0 : ¬ (addSync Q.D indexB (slRow id ⟨r.dom,0,0⟩)).2 ≠ 0:=by rw [k1]; simp
      rw [if_neg hk0,if_neg (by simp)]
      generalize (addSync Q.D indexB (slRow id ⟨r.dom,0,0⟩)).1 = D2 at *
      have hF:=hg.holds.row (id:=id) (r:=⟨r.dom,0,0⟩) ⟨hfit.1,hfit.2.1,Nat.zero_le _,Nat.zero_le _⟩ (fun h0 => absurd rfl h0) (fun h0 => absurd rfl h0)
      rw [← k3] at hF
      have hlast : max Q.last id = Q.last:=Nat.max_eq_left (hg.holds.below hr)
      have hrows : ∀ j,(slKnows Q.rows id ⟨r.dom,0,0⟩).get j = if j = id then none else Q.rows.get j:=fun j => by
        rw [slKnows_get]
        split
        · rfl
        · rfl
      have hget : ∀ k,k ≠ indexB → D2.now.get k = Q.D.now.get k:=fun k hk => by rw [k3,fs_get_put,if_neg (Ne.symm hk)]
      have hfile : D2.now.get (fileB id r.ep r.cnt) ≠ none:=by
        rw [hget _ (file_index _ _ _)]
        obtain ⟨⟨_,_,⟨t,ht,_⟩,_⟩,_⟩:=hg.holds.right id r hr
        rw [ht]; simp
      have hnr : ∀ j r1,(slKnows Q.rows id ⟨r.dom,0,0⟩).get j = some r1 → fileB id r.ep r.cnt ≠ fileB j r1.ep r1.cnt:=by
        intro j r1 hj hf
        rw [hrows,if_pos (fileB_inj hf).1.symm] at hj
        cases hj
      have hG:=hF.gone (file_index id r.ep r.cnt) (file_ring _ _ _) (file_led _ _ _) hnr
      have hq:=file_queue id r.ep r.cnt
      have hI2:=remove_keep (k:=indexB) D2 (n:=fileB id r.ep r.cnt) (Ne.symm (file_index _ _ _)) hI.1
      have hR2:=remove_keep (k:=ringB) D2 (n:=fileB id r.ep r.cnt) (Ne.symm (file_ring _ _ _)) hI.1
      have hL2:=remove_keep (k:=ledB) D2 (n:=fileB id r.ep r.cnt) (Ne.symm (file_led _ _ _)) hI.1
      rcases (remove_did D2 (fileB id r.ep r.cnt)).alive k2 k4 with ⟨j1,j2,j3⟩ | ⟨j1,j2,j3,j4,_⟩
      · exfalso
        rcases remove_has hfile with hh | hh
        · exact j3 hh
        · exact j2 hh
      · refine ⟨⟨lf,⟨?_,j2,(remove_did D2 (fileB id r.ep r.cnt)).top hT,hg.mem,?_⟩⟩,hI2.1,hI2.2 (hI.2 h.hasI),hR2.2 (hR.2 h.hasR),hL2.2 (hL.2 h.hasL),?_⟩
        · show Holds m Q.B (D2.remove _).1.now _ _ _ _
          rw [j3]
          exact hG
        · intro j r1 hj
          have hj' : (slKnows Q.rows id ⟨r.dom,0,0⟩).get j = some r1:=hj
          rw [hrows] at hj'
          split at hj'
          · cases hj'
          · exact hg.used j r1 hj'
        · intro k hk
          have hk' : (D2.remove (fileB id r.ep r.cnt)).1.now.get k ≠ none:=hk
          rw [j3,fs_get_del] at hk'
          by_cases ek : k = fileB id r.ep r.cnt
          · rw [if_pos ek] at hk'
            exact absurd rfl hk'
          · rw [if_neg ek] at hk'
            by_cases ei : k = indexB
            · exact .inl ei
            · rw [hget k ei] at hk'
              rcases h.tidy k hk' with t | t | t | ⟨j,r1,hj,hjk⟩
              · exact .inl t
              · exact .inr (.inl t)
              · exact .inr (.inr (.inl t))
              · refine .inr (.inr (.inr ⟨j,r1,?_,hjk⟩))
                show (slKnows Q.rows id ⟨r.dom,0,0⟩).get j = some r1
                rw [hrows]
                by_cases ej : j = id
                · rw [ej] at hj hjk
                  rw [hr] at hj
                  cases hj
                  exact absurd hjk ek
                · rw [if_neg ej]
                  exact hj
theorem Up.set (h : Up m Q) {x : Bs} {s : RSt} (hx : ring3Ok (x,s)) (hl : ∀ id r,Q.rows.get id = some r → r.dom = x → ringLive Q.ring r.dom r.ep = true → r.ep = s.now ∨ r.ep = s.old) :
    Up m { Q with D:=(ringSet Q.D Q.ring x s).1,ring:=(ringSet Q.D Q.ring x s).2.1 }:=by
  obtain ⟨lf,hg⟩:=h.good
  rw [ringSet_sync]
  split
  · exact h
  · have hI:=addSync_keep indexB Q.D ringB (ringRow x s) h.calm
    have hR:=addSync_keep ringB Q.D ringB (ringRow x s) h.calm
    have hL:=addSync_keep ledB Q.D ringB (ringRow x s) h.calm
    have hT:=(addSync_did Q.D ringB (ringRow x s)).top hg.hist
    rcases (addSync_did Q.D ringB (ringRow x s)).alive h.calm.1 h.calm.2 with ⟨k1,k2,_⟩ | ⟨k1,k2,k3,k4,_⟩
    · rw [if_pos k2,k1]
      exact h
    · rw [if_neg (by rw [k1]; simp)]
      generalize (addSync Q.D ringB (ringRow x s)).1 = D2 at *
      have hF:=hg.holds.state (x:=x) (s:=s) hx (fun id r hr => by
        have h1:=(hg.holds.right id r hr).2
        unfold ringLive
        rw [ringState_put3]
        by_cases e : x = r.dom
        · rw [if_pos e]
          have h2:=hl id r hr e.symm h1
          unfold ringLive at h1
          simp only [Bool.and_eq_true,Bool.or_eq_true,decide_eq_true_eq] at h1 ⊢
          exact ⟨h1.1,h2⟩
        · rw [if_neg e]
          exact h1)
      rw [← k3] at hF
      refine ⟨⟨lf,⟨hF,k2,hT,hg.mem,hg.used⟩⟩,hI.1,hI.2 h.hasI,hR.2 h.hasR,hL.2 h.hasL,fun k hk => ?_⟩
      have hk' : D2.now.get k ≠ none:=hk
      by_cases er : k = ringB
      · exact .inr (.inl er)
      · rw [k3,fs_get_put,if_neg (Ne.symm er)] at hk'
        exact h.tidy k hk'
theorem Up.begin (h : Up m Q) (hok : SlOk c n Q) (x : Bs) : Up m (Q.begin x).1:=by
  have hs:=ringState_of hok.ring x
  have h0 : Up m { Q with D:=Q.D,ring:=Q.ring }:=h
  unfold Sq.begin ringBegin
  split
  · exact h0
  · split
    · exact h0
    · split
      · exact h0
      · rename_i h255 hold hne
        have h1:=h.set (x:=x) (s:=⟨(ringState Q.ring x).now + 1,(ringState Q.ring x).now⟩) ⟨by dsimp only; omega,by dsimp only; omega,by dsimp only; omega⟩ (fun id r hr hd hl => by
          unfold ringLive at hl
          rw [hd] at hl
          simp only [Bool.and_eq_true,Bool.or_eq_true,decide_eq_true_eq] at hl
          dsimp only
          omega)
        split
        · exact h1
        · exact h1
theorem Up.step (h : Up m Q) (hok : SlOk c n Q) (hmk : c.master = m) (d : Bs) : Up m (Q.step c d).1:=by
  rw [step_eq]
  split
  · exact h
  · rename_i hold
    split
    · rename_i id hel
      obtain ⟨l1,l2,_⟩:=h.load hok id
      rw [← hmk] at l1 l2
      split
      · rename_i hz
        obtain ⟨r,hr,hi,hd⟩:=l2 hz
        rw [l1]
        have hid:=(hok.fit _ (Mn.get_mem hr)).1
        exact (h.write hok hmk _ _ (by rw [hi]; exact hid) (fun r0 hr0 => by
          rw [hi,hr] at hr0
          cases hr0
          exact hd.symm)).1
      · split
        · rw [l1]; exact h
        · rw [l1]; exact h
    · rename_i hel
      have hs:=ringState_of hok.ring d
      have h0 : Up m { Q with D:=Q.D,ring:=Q.ring }:=h
      unfold ringEnd
      split
      · exact h0
      · rename_i h255
        exact h.set (x:=d) (s:=⟨(ringState Q.ring d).now,0⟩) ⟨by dsimp only; omega,by dsimp only; omega,Nat.zero_le _⟩ (fun id r hr hd hl => by
            have hne:=slElder_none hel id (id_mem hr)
            rw [rowAt_get hr] at hne
            unfold ringLive at hl
            rw [hd] at hl
            simp only [Bool.and_eq_true,Bool.or_eq_true,decide_eq_true_eq] at hl
            dsimp only
            rcases hl.2 with g | g
            · exact .inl g
            · exact absurd ⟨hd,g⟩ hne)
end
end
section
open Go.RowKit Go.Maps
theorem has_get3 {F : Fs} {k : Bs} (h : F.get k ≠ none) : F.has k = true:=by
  rw [Fs.has_eq]
  cases hg : F.get k with
  | none => exact absurd hg h
  | some v => rfl
theorem names_get {F : Fs} {pre f : Bs} (h : f ∈ F.names pre) : F.get f ≠ none ∧ pre.isPrefixOf f = true:=by
  unfold Fs.names at h
  rw [List.mem_filter,List.mem_map] at h
  obtain ⟨⟨p,hp,rfl⟩,h2⟩:=h
  refine ⟨fun hn => ?_,h2⟩
  have:=has_iff.2 ⟨p,hp,rfl⟩
  rw [Fs.has_eq,hn] at this
  cases this
section
variable {m : Bs} {Q : Sq} {c : Sc} {n : Nat} {lf : List LRow}
theorem rec1_right (Q : Sq) (m : Bs) : ∀ (l : List Nat) (files : Mp Bool) (d : Bool),(∀ id ∈ l,(Q.open m id).2.2 = true) →
    ∃ files2,slRec1 m l ⟨Q,files,d⟩ = (⟨Q,files2,d⟩,0) ∧ (∀ f,files.get f = some true → files2.get f = some true) ∧ ∀ id ∈ l,files2.get (slFile Q.rows id) = some true
  | [],files,d,_ => ⟨files,rfl,fun _ h => h,fun _ h => nomatch h⟩
  | id :: l,files,d,h => by
    obtain ⟨files2,h1,h2,h3⟩:=rec1_right Q m l (files.put (slFile Q.rows id) true) d (fun j hj => h j (by simp [hj]))
    have hput : ∀ f,f = slFile Q.rows id ∨ files.get f = some true → (files.put (slFile Q.rows id) true).get f = some true:=fun f hf => by
      rw [Mp.get_put]
      split
      · rfl
      · rename_i hne
        rcases hf with rfl | hf
        · exact absurd rfl hne
        · exact hf
    refine ⟨files2,?_,fun f hf => h2 f (hput f (.inr hf)),fun j hj => ?_⟩
    · rw [slRec1,if_pos (h id (by simp)),h1]
    · rcases List.mem_cons.1 hj with rfl | hj
      · exact h2 _ (hput _ (.inl rfl))
      · exact h3 j hj
theorem rec2_known (files : Mp Bool) (D : Dk) : ∀ (l : List Bs) (d : Bool),(∀ f ∈ l,files.get f = some true) → slRec2 files l D d = (D,d,0)
  | [],d,_ => rfl
  | f :: l,d,h => by
    rw [slRec2,if_pos (h f (by simp))]
    exact rec2_known files D l d (fun g hg => h g (by simp [hg]))
theorem recover_same (h : Up m Q) (hf : RowsFit Q.rows) : Q.recover m = (Q,0) ∧ slRec1 m Q.ids ⟨Q,[],false⟩ = ((slRec1 m Q.ids ⟨Q,[],false⟩).1,0) ∧ (slRec1 m Q.ids ⟨Q,[],false⟩).1.Q = Q:=by
  obtain ⟨lf,hh⟩:=h.holds
  have hall : ∀ id ∈ Q.ids,(Q.open m id).2.2 = true:=fun id hid => by
    unfold Sq.ids at hid
    obtain ⟨p,hp,rfl⟩:=List.mem_map.1 hid
    obtain ⟨r,hr⟩ : ∃ r,Q.rows.get p.1 = some r:=by
      have : Q.rows.has p.1 = true:=by unfold Mn.has; rw [List.any_eq_true]; exact ⟨p,hp,by simp⟩
      rw [Mn.has_eq] at this
      exact Option.isSome_iff_exists.1 this
    obtain ⟨e,body,_,ho⟩:=open_right hh hf hr
    rw [ho]
  obtain ⟨files,h1,_,h3⟩:=rec1_right Q m Q.ids [] false hall
  have hk : ∀ f ∈ Q.D.now.names queueB,files.get f = some true:=fun f hfm => by
    obtain ⟨g1,g2⟩:=names_get hfm
    rcases h.tidy f g1 with rfl | rfl | rfl | ⟨id,r,hr,rfl⟩
    · exact absurd g2 (by decide)
    · exact absurd g2 (by decide)
    · exact absurd g2 (by decide)
    · have:=h3 id (id_mem hr)
      unfold slFile at this
      rw [rowAt_get hr] at this
      exact this
  have h2:=rec2_known files Q.D (Q.D.now.names queueB) false hk
  refine ⟨?_,by rw [h1],by rw [h1]⟩
  rw [recover_eq,h1]
  dsimp only
  rw [if_neg (by simp),h2]
  dsimp only
  rw [if_neg (by simp),if_pos rfl]
theorem reopen (h : Up m Q) (hok : SlOk c n Q) (hmk : c.master = m) : ∃ lf,spoolOpen c Q.D Q.B = (Q.D,some { Q with led:=ledPuts lf },0) ∧ Up m { Q with led:=ledPuts lf } ∧ ledOpen Q.D = (Q.D,some (ledPuts lf),0) ∧ ringOpen Q.D = (Q.D,some Q.ring,0) ∧ slIndex Q.D = (Q.D,0) ∧ slFound c Q.D Q.B (ledPuts lf) Q.ring = { Q with led:=ledPuts lf }:=by
  obtain ⟨lf,hg⟩:=h.good
  have hl : ledOpen Q.D = (Q.D,some (ledPuts lf),0):=by
    obtain ⟨b1,b2⟩:=lrows_back lf hg.holds.led.2
    unfold ledOpen
    have e : ledFile Q.D = (lf.map LRow.text).flatten:=hg.holds.led.1
    rw [e,b1,b2,if_pos ⟨has_get3 h.hasL,rfl⟩]
  have hr : ringOpen Q.D = (Q.D,some Q.ring,0):=by
    obtain ⟨l,e,l2,l3⟩:=hg.holds.ring
    obtain ⟨b1,b2⟩:=ring3_back l l2
    unfold ringOpen
    have e' : ringFile Q.D = ring3 l:=e
    rw [e',b1,b2,l3,if_pos ⟨has_get3 h.hasR,rfl⟩]
  obtain ⟨l,e,l2,l3⟩:=hg.holds.index
  obtain ⟨b1,b2⟩:=sl3_back l l2
  have ei : indexOf Q.D = sl3 l:=e
  have hi : slIndex Q.D = (Q.D,0):=by
    unfold slIndex
    rw [ei,b2,if_pos ⟨has_get3 h.hasI,rfl⟩]
  have hfd : slFound c Q.D Q.B (ledPuts lf) Q.ring = { Q with led:=ledPuts lf }:=by
    unfold slFound slBegin
    rw [hl]
    dsimp only
    rw [hr]
    dsimp only
    rw [hi,ei,b1,l3]
  have hup : Up m { Q with led:=ledPuts lf }:=by
    refine ⟨⟨lf,⟨hg.holds,hg.live,hg.hist,fun k => ⟨Nat.le_of_eq (ledPuts_same lf k),rfl⟩,fun id r hr => ?_⟩⟩,h.calm,h.hasI,h.hasR,h.hasL,h.tidy⟩
    have:=hg.holds.cnts id r hr
    show r.cnt < (lgOf (ledPuts lf) _).c
    rw [ledPuts_same]
    exact this
  refine ⟨lf,?_,hup,hl,hr,hi,hfd⟩
  have hst:=hok.step
  have hmo:=hok.most
  rw [spoolOpen_eq (by omega),hl]
  dsimp only
  rw [hr]
  dsimp only
  rw [hi,hfd,if_neg (by simp),hmk,(recover_same hup hok.fit).1]
  dsimp only
  rw [if_neg (by simp)]
end
end
section
open Go.RowKit Go.Maps
theorem done_len (D : Dk) (e : Ev) : (D.done e).1.now.length ≤ D.now.length + 1:=by
  unfold Dk.done
  split
  · exact Nat.le_succ _
  · split
    · exact Nat.le_succ _
    · exact length_did_le D.now e
theorem write_len (D : Dk) (n d : Bs) : (D.write n d).1.now.length ≤ D.now.length + 1:=by
  unfold Dk.write
  split
  · split
    · exact Nat.le_succ _
    · split
      · exact Nat.le_succ _
      · exact done_len _ _
  · exact Nat.le_succ _
theorem append_len (D : Dk) (n d : Bs) : (D.append n d).1.now.length ≤ D.now.length + 1:=by
  unfold Dk.append
  split
  · split
    · exact Nat.le_succ _
    · exact done_len _ _
  · exact Nat.le_succ _
theorem remove_len (D : Dk) (n : Bs) : (D.remove n).1.now.length ≤ D.now.length + 1:=by
  unfold Dk.remove
  split
  · exact done_len _ _
  · exact Nat.le_succ _
theorem rename_len (D : Dk) (n t : Bs) : (D.rename n t).1.now.length ≤ D.now.length + 1:=by
  unfold Dk.rename
  split
  · split
    · exact done_len _ _
    · exact Nat.le_succ _
  · exact Nat.le_succ _
theorem sync_len (D : Dk) : D.sync.1.now.length ≤ D.now.length + 1:=done_len _ _
theorem addSync_len (D : Dk) (n d : Bs) : (addSync D n d).1.now.length ≤ D.now.length + 2:=by
  have h1:=append_len D n d
  have h2:=sync_len (D.append n d).1
  unfold addSync
  split <;> omega
theorem ledNext_len (D : Dk) (M : Mp Cnt) (step most : Nat) (x : Bs) : (ledNextN D M step most x).1.now.length ≤ D.now.length + 2:=by
  unfold ledNextN
  split
  · exact Nat.le_add_right _ _
  · split
    · exact Nat.le_add_right _ _
    · split
      · split
        · exact addSync_len _ _ _
        · exact addSync_len _ _ _
      · exact Nat.le_add_right _ _
theorem ringSet_len (D : Dk) (M : Mp RSt) (x : Bs) (s : RSt) : (ringSet D M x s).1.now.length ≤ D.now.length + 2:=by
  rw [ringSet_sync]
  split
  · exact Nat.le_add_right _ _
  · split
    · exact addSync_len _ _ _
    · exact addSync_len _ _ _
def Sq.less (Q Q2 : Sq) (a b : Nat) : Prop:=Q2.rows.length ≤ Q.rows.length + a ∧ Q2.D.now.length ≤ Q.D.now.length + b
theorem lay_less (Q : Sq) (id : Nat) (r : Row3) : Q.less (Q.lay id r).1 1 2:=by
  have h:=addSync_len Q.D indexB (slRow id r)
  have h2:=slKnows_length Q.rows id r
  rw [lay_sync]
  split
  · exact ⟨Nat.le_succ _,h⟩
  · exact ⟨h2,h⟩
theorem drop_less (Q : Sq) (id : Nat) : Q.less (Q.drop id).1 1 2:=by
  have h:=rename_len Q.D (slFile Q.rows id) (asideB ++ slTrim (slFile Q.rows id))
  have h1:=append_len (slAway Q.D (slFile Q.rows id)).1 indexB (slRow id ⟨(rowAt Q.rows id).dom,0,0⟩)
  have h2:=slKnows_length Q.rows id ⟨(rowAt Q.rows id).dom,0,0⟩
  have e : (slAway Q.D (slFile Q.rows id)).1 = (Q.D.rename (slFile Q.rows id) (asideB ++ slTrim (slFile Q.rows id))).1:=rfl
  rw [← e] at h
  unfold Sq.drop
  split
  · exact ⟨Nat.le_succ _,by dsimp only; omega⟩
  · split
    · exact ⟨Nat.le_succ _,by dsimp only; omega⟩
    · exact ⟨h2,by show ((slAway Q.D (slFile Q.rows id)).1.append _ _).1.now.length ≤ _; omega⟩
theorem load_less (Q : Sq) (m : Bs) (id : Nat) : Q.less (Q.load m id).1 1 3:=by
  have h:=drop_less Q id
  have h2:=sync_len (Q.drop id).1.D
  rw [load_eq]
  split
  · exact ⟨Nat.le_succ _,Nat.le_add_right _ _⟩
  · split
    · exact ⟨Nat.le_succ _,Nat.le_add_right _ _⟩
    · split
      · exact ⟨h.1,by have:=h.2; dsimp only; omega⟩
      · split
        · exact ⟨h.1,by have:=h.2; dsimp only; omega⟩
        · exact ⟨h.1,by have:=h.2; dsimp only; omega⟩
theorem sealed_less (Q : Sq) (c : Sc) (e : En) (body : Bs) : Q.less (Q.sealed c e body).1 0 2:=by
  have h:=ledNext_len Q.D Q.led c.step c.most (ringKey e.dom (Q.epoch e.dom))
  unfold Sq.sealed
  split
  · exact ⟨Nat.le_refl _,h⟩
  · split
    · exact ⟨Nat.le_refl _,h⟩
    · exact ⟨Nat.le_refl _,h⟩
theorem wrote_less (Q : Sq) (file text : Bs) (id : Nat) (r : Row3) (old : Option Bs) : Q.less (Q.wrote file text id r old).1 1 4:=by
  have h:=write_len Q.D file text
  have h1:=lay_less ({ Q with D:=(Q.D.write file text).1 } : Sq) id r
  rw [wrote_eq]
  generalize (Q.D.write file text).1 = D1 at *
  split
  · exact ⟨Nat.le_succ _,by dsimp only; omega⟩
  · have h3:=remove_len (({ Q with D:=D1 } : Sq).lay id r).1.D file
    have h1a:=h1.1
    have h1b:=h1.2
    dsimp only at h1a h1b
    split
    · exact ⟨h1a,by dsimp only; omega⟩
    · cases old with
      | none => exact ⟨h1a,by dsimp only; omega⟩
      | some o =>
        have h4:=remove_len (({ Q with D:=D1 } : Sq).lay id r).1.D o
        dsimp only
        split
        · exact ⟨h1a,by dsimp only; omega⟩
        · exact ⟨h1a,by dsimp only; omega⟩
theorem write_less (Q : Sq) (c : Sc) (e : En) (body : Bs) : Q.less (Q.write c e body).1 1 6:=by
  have h:=sealed_less Q c e body
  have h1:=wrote_less (Q.sealed c e body).1 (fileB e.id (Q.entry c e).ep (Q.entry c e).cnt) (Q.sealed c e body).2.1 e.id ⟨e.dom,(Q.entry c e).ep,(Q.entry c e).cnt⟩ (if Q.rows.has e.id = true then some (slFile Q.rows e.id) else none)
  unfold Sq.less at *
  rw [write_eq]
  split
  · exact ⟨by dsimp only; omega,by dsimp only; omega⟩
  · exact ⟨by omega,by omega⟩
def A16.play (c : Sc) (Q : Sq) (x : A16) : Sq :=
  if x.kind = 0 then (Q.put c x.e x.body).1 else if x.kind = 1 then (Q.load c.master x.e.id).1 else if x.kind = 2 then (Q.update c x.e).1
  else if x.kind = 3 then (Q.remove x.e.id).1 else if x.kind = 4 then (Q.begin x.e.dom).1 else if x.kind = 5 then (Q.step c x.e.dom).1 else Q
theorem play_less (c : Sc) (Q : Sq) (x : A16) : Q.less (x.play c Q) 2 9:=by
  have self : Q.less Q 2 9:=⟨Nat.le_add_right _ _,Nat.le_add_right _ _⟩
  have mono : ∀ {Q2 : Sq} {a b : Nat},Q.less Q2 a b → a ≤ 2 → b ≤ 9 → Q.less Q2 2 9:=fun h h1 h2 => ⟨by have:=h.1; omega,by have:=h.2; omega⟩
  have trans : ∀ {Q2 Q3 : Sq} {a b a2 b2 : Nat},Q.less Q2 a b → Q2.less Q3 a2 b2 → a + a2 ≤ 2 → b + b2 ≤ 9 → Q.less Q3 2 9:=fun h g h1 h2 => ⟨by have:=h.1; have:=g.1; omega,by have:=h.2; have:=g.2; omega⟩
  unfold A16.play
  split
  · rw [put_eq]
    have h:=write_less Q c { x.e with id:=Q.last + 1 } x.body
    repeat' split
    all_goals first | exact self | exact mono h (by decide) (by decide)
  · split
    · exact mono (load_less Q c.master x.e.id) (by decide) (by decide)
    · split
      · rw [update_eq]
        have h:=load_less Q c.master x.e.id
        have h2:=write_less (Q.load c.master x.e.id).1 c x.e (Q.load c.master x.e.id).2.2.1
        repeat' split
        all_goals first | exact mono h (by decide) (by decide) | exact trans h h2 (by decide) (by decide)
      · split
        · rw [remove_eq]
          have h:=lay_less Q x.e.id ⟨(rowAt Q.rows x.e.id).dom,0,0⟩
          have h2:=remove_len (Q.lay x.e.id ⟨(rowAt Q.rows x.e.id).dom,0,0⟩).1.D (slFile Q.rows x.e.id)
          split
          · exact self
          · split
            · exact mono h (by decide) (by decide)
            · exact ⟨by have:=h.1; dsimp only; omega,by have:=h.2; dsimp only; omega⟩
        · split
          · unfold Sq.begin ringBegin
            have h:=ringSet_len Q.D Q.ring x.e.dom ⟨(ringState Q.ring x.e.dom).now + 1,(ringState Q.ring x.e.dom).now⟩
            repeat' split
            all_goals exact ⟨Nat.le_add_right _ _,by dsimp only; omega⟩
          · split
            · rw [step_eq]
              split
              · exact self
              · split
                · rename_i id _
                  have h:=load_less Q c.master id
                  have h2:=write_less (Q.load c.master id).1 c (Q.load c.master id).2.1 (Q.load c.master id).2.2.1
                  repeat' split
                  all_goals first | exact mono h (by decide) (by decide) | exact trans h h2 (by decide) (by decide)
                · unfold ringEnd
                  have h:=ringSet_len Q.D Q.ring x.e.dom ⟨(ringState Q.ring x.e.dom).now,0⟩
                  repeat' split
                  all_goals exact ⟨Nat.le_add_right _ _,by dsimp only; omega⟩
            · exact self
theorem play_ok {c : Sc} {n : Nat} {Q : Sq} (h : SlOk c n Q) (x : A16) : SlOk c (n + 23000) (x.play c Q):=by
  unfold A16.play
  repeat' split
  · exact (h.put x.e x.body).mono (by omega)
  · exact (h.load x.e.id).mono (by omega)
  · exact h.update x.e
  · exact (h.remove x.e.id).mono (by omega)
  · exact (h.begin x.e.dom).mono (by omega)
  · exact h.stepped x.e.dom
  · exact h.mono (by omega)
theorem play_up {c : Sc} {n : Nat} {Q : Sq} (h : Up c.master Q) (hok : SlOk c n Q) (x : A16) : Up c.master (x.play c Q):=by
  unfold A16.play
  repeat' split
  · exact h.put hok rfl x.e x.body
  · rw [(h.load hok x.e.id).1]; exact h
  · exact h.update hok rfl x.e
  · exact h.remove hok x.e.id
  · exact h.begin hok x.e.dom
  · exact h.step hok rfl x.e.dom
  · exact h
def D16a : Dk:=(ledOpen Dk.new).1
def D16b : Dk:=(ringOpen D16a).1
def D16 : Dk:=(slIndex D16b).1
theorem open16_l : ledOpen Dk.new = (D16a,some [],0):=by
  show _ = ((ledOpen Dk.new).1,_,_)
  kernel_rfl
theorem open16_r : ringOpen D16a = (D16b,some [],0):=by
  show _ = ((ringOpen D16a).1,_,_)
  kernel_rfl
theorem open16_i : slIndex D16b = (D16,0):=by
  show _ = ((slIndex D16b).1,_)
  kernel_rfl
theorem D16_now : D16.now = [(indexB,[]),(ledB,[]),(ringB,[])]:=by kernel_rfl
theorem D16_rest : D16.sure = D16.now ∧ D16.pend = [] ∧ D16.dead = false ∧ D16.fuse = -1:=⟨by kernel_rfl,by kernel_rfl,by kernel_rfl,by kernel_rfl⟩
def Q16 (B : Bx) : Sq:=⟨D16,B,[],[],[],0⟩
theorem found16 (c : Sc) (B : Bx) : slFound c Dk.new B [] [] = Q16 B:=by
  unfold slFound slBegin
  rw [open16_l]
  dsimp only
  rw [open16_r]
  dsimp only
  rw [open16_i]
  have h : slLearn (slRowsOf (indexOf D16b)) = ([],0):=by kernel_rfl
  rw [h]
  rfl
theorem recover16 (m : Bs) (B : Bx) : slRec1 m (Q16 B).ids ⟨Q16 B,[],false⟩ = (⟨Q16 B,[],false⟩,0):=rfl
theorem names16 : D16.now.names queueB = []:=by rw [D16_now]; kernel_rfl
theorem first16 {c : Sc} {B : Bx} (h : ¬ (c.step < 1 ∨ 1000 < c.step ∨ 1099511627776 < c.most)) : spoolOpen c Dk.new B = (D16,some (Q16 B),0):=by
  have hr : (Q16 B).recover c.master = (Q16 B,0):=by
    rw [recover_eq,recover16]
    dsimp only
    have hn : (Q16 B).D.now.names queueB = []:=names16
    rw [if_neg (by simp),hn]
    rfl
  rw [spoolOpen_eq h,open16_l]
  dsimp only
  rw [open16_r]
  dsimp only
  rw [open16_i,found16,hr]
  dsimp only
  rw [if_neg (by simp),if_neg (by simp)]
  rfl
theorem up16 (m : Bs) (B : Bx) : Up m (Q16 B):=by
  have hget : ∀ k,D16.now.get k = if k = indexB ∨ k = ledB ∨ k = ringB then some [] else none:=by
    intro k
    rw [D16_now]
    show Mp.get _ k = _
    rw [Mp.get_cons,Mp.get_cons,Mp.get_cons]
    by_cases h1 : indexB = k
    · rw [if_pos h1,if_pos (.inl h1.symm)]
    · rw [if_neg h1]
      by_cases h2 : ledB = k
      · rw [if_pos h2,if_pos (.inr (.inl h2.symm))]
      · rw [if_neg h2]
        by_cases h3 : ringB = k
        · rw [if_pos h3,if_pos (.inr (.inr h3.symm))]
        · rw [if_neg h3,if_neg (by rintro (h | h | h) <;> simp_all)]
          rfl
  obtain ⟨r1,r2,r3,r4⟩:=D16_rest
  refine ⟨⟨[],⟨⟨?_,⟨[],?_,by simp,rfl⟩,⟨[],?_,by simp,rfl⟩,⟨?_,by simp⟩,fun id r hr => by simp [Q16,Mn.get] at hr,fun id r hr => by simp [Q16,Mn.get] at hr⟩,r3,⟨fun _ => trivial,?_⟩,fun k => by simp [Q16,lgOf,Mp.get,ledPuts],fun id r hr => by simp [Q16,Mn.get] at hr⟩⟩,⟨r3,by show D16.fuse < 0; rw [r4]; decide⟩,?_,?_,?_,fun k hk => ?_⟩
  · show D16.now.Sorted
    rw [D16_now]
    unfold Fs.Sorted
    simp only [List.pairwise_cons,List.mem_cons,List.not_mem_nil,or_false,forall_eq_or_imp,forall_eq,List.Pairwise.nil,and_true,false_implies,implies_true]
    exact ⟨⟨by decide,by decide⟩,by decide⟩
  · show (D16.now.get indexB).getD [] = _
    rw [hget,if_pos (.inl rfl)]; rfl
  · show (D16.now.get ringB).getD [] = _
    rw [hget,if_pos (.inr (.inr rfl))]; rfl
  · show (D16.now.get ledB).getD [] = _
    rw [hget,if_pos (.inr (.inl rfl))]; rfl
  · show D16.now = _
    unfold Dk.replay Q16
    dsimp only
    rw [r1,r2]
    rfl
  · show D16.now.get indexB ≠ none
    rw [hget,if_pos (.inl rfl)]; simp
  · show D16.now.get ringB ≠ none
    rw [hget,if_pos (.inr (.inr rfl))]; simp
  · show D16.now.get ledB ≠ none
    rw [hget,if_pos (.inr (.inl rfl))]; simp
  · have hk' : D16.now.get k ≠ none:=hk
    rw [hget] at hk'
    split at hk'
    · rename_i h
      rcases h with h | h | h
      · exact .inl h
      · exact .inr (.inr (.inl h))
      · exact .inr (.inl h)
    · exact absurd rfl hk'
theorem ok16 {c : Sc} {B : Bx} (hk : c.master.length = 32) (h : ¬ (c.step < 1 ∨ 1000 < c.step ∨ 1099511627776 < c.most)) (hB : B.slim) (ht : 1000 * B.tab ≤ 100) : SlOk c 100 (Q16 B) where
  key:=hk
  step:=by omega
  most:=by omega
  room:=⟨show D16.fuse ≤ 9223372036854775807 from of_decide_eq_true (by kernel_rfl),show D16.trace.length ≤ 100 from of_decide_eq_true (by kernel_rfl),show D16.pend.length ≤ 100 from of_decide_eq_true (by kernel_rfl),show D16.now.length ≤ 100 from of_decide_eq_true (by kernel_rfl),show D16.now.bytes ≤ 100 from of_decide_eq_true (by kernel_rfl)⟩
  led:=by simp [Q16]
  ledn:=Nat.zero_le _
  ring:=by simp [Q16]
  ringn:=Nat.zero_le _
  fit:=fun p hp => by simp [Q16] at hp
  len:=Nat.zero_le _
  last:=Nat.zero_le _
  slim:=hB
  tab:=ht
end
end Go.Proofs.YtangbdahnmomlaaGreatDoor
