/- spool, plainly: a message written, whatever dies. No program. spool, plainly: what each act leaves of a spool that lives. No program. spool, plainly: a spool whose disk nothing breaks. No program. -/
import Derived.Test.YtangbdahnmomlaaGreatDoorBu41
set_option linter.unnecessarySimpa false
set_option linter.unusedSimpArgs false
set_option linter.unusedVariables false
namespace Go.Proofs.YtangbdahnmomlaaGreatDoor
section
open Go.RowKit Go.Maps
theorem remove_has {D : Dk} {n : Bs} (h : D.now.get n ≠ none) : (D.remove n).2 = 13 ∨ (D.remove n).2 = 0:=by
  have hh : D.now.has n = true:=by
    rw [Fs.has_eq]
    cases hg : D.now.get n with
    | none => exact absurd hg h
    | some v => rfl
  unfold Dk.remove
  rw [if_pos hh]
  rcases done_cases D ⟨4,n,[],[]⟩ with ⟨h1,_⟩ | ⟨h1,_⟩
  · left; rw [h1]
  · right; exact h1
theorem remove_dead {D : Dk} (h : D.dead = true) (n : Bs) : (D.remove n).1 = D:=by
  unfold Dk.remove
  split
  · unfold Dk.done
    rw [if_pos (by simp [h])]
    exact dead_same h
  · rfl
theorem rowAt_get {M : Mn Row3} {id : Nat} {r : Row3} (h : M.get id = some r) : rowAt M id = r:=by unfold rowAt; rw [h]; rfl
section
variable {P P0 : Bx → Fs → Prop} {m : Bs} {Q : Sq} {c : Sc} {n : Nat} {lf : List LRow}
inductive Wrote (P0 P : Bx → Fs → Prop) (m : Bs) (Q : Sq) (lf : List LRow) (id : Nat) (r : Row3) (e : En) (body : Bs) (R : Sq × Int) : Prop
  | down : R.2 = 13 → R.1.D.dead = true → Hist (P R.1.B) R.1.D → Q.B.le R.1.B → Wrote P0 P m Q lf id r e body R
  | lost : R.2 ≠ 0 → R.1.D.dead = true → Hist (P0 R.1.B) R.1.D → Q.B.le R.1.B → Wrote P0 P m Q lf id r e body R
  | no : R.2 ≠ 0 → Good P0 m R.1 lf → R.1.rows = Q.rows → R.1.last = Q.last → R.1.ring = Q.ring → Q.B.le R.1.B → SameFiles Q.rows R.1.D.now Q.D.now → (∀ k,k ≠ ledB → R.1.D.now.get k ≠ none → Q.D.now.get k ≠ none) → (∀ k,queueB.isPrefixOf k = false → k ≠ ledB → Q.D.now.get k ≠ none → R.1.D.now.get k ≠ none) → Wrote P0 P m Q lf id r e body R
  | did : R.2 = 0 → Good P m R.1 lf → R.1.rows = slKnows Q.rows id r → R.1.last = max Q.last id → R.1.ring = Q.ring → Q.B.le R.1.B → Opens m R.1.B R.1.D.now id r e body → (∀ j r0,j ≠ id → Q.rows.get j = some r0 → R.1.D.now.get (fileB j r0.ep r0.cnt) = Q.D.now.get (fileB j r0.ep r0.cnt)) →
      (∀ k,k ≠ ledB → R.1.D.now.get k ≠ none → k = fileB id r.ep r.cnt ∨ (Q.D.now.get k ≠ none ∧ ∀ r0,Q.rows.get id = some r0 → k ≠ fileB id r0.ep r0.cnt)) → (∀ k,queueB.isPrefixOf k = false → k ≠ ledB → Q.D.now.get k ≠ none → R.1.D.now.get k ≠ none) → Wrote P0 P m Q lf id r e body R
theorem file_queue (id n o : Nat) : queueB.isPrefixOf (fileB id n o) = true:=by simp [fileB,queueB,List.isPrefixOf]
theorem wrote_good (h : Good P0 m Q lf) (h01 : ∀ F,P0 Q.B F → P Q.B F) (hold : Old P0 m Q) (hI : Q.D.now.get indexB ≠ none) {text body : Bs} {id : Nat} {r : Row3} {e : En}
    (hx : sl3Ok (id,r)) (ho : slOpened Q.B (keyB m r.dom r.ep) text = (e,body,0)) (e1 : e.id = id) (e2 : e.dom = r.dom) (e3 : e.ep = r.ep) (e4 : e.cnt = r.cnt) (hep : r.ep ≠ 0) (hl : ringLive Q.ring r.dom r.ep = true)
    (hcnt : r.cnt < (lgOf Q.led (ringKey r.dom r.ep)).c) (hfresh : ∀ j r0,Q.rows.get j = some r0 → fileB j r0.ep r0.cnt ≠ fileB id r.ep r.cnt)
    (hnew : ∀ F,Holds m Q.B F (slKnows Q.rows id r) (max Q.last id) Q.ring lf → Opens m Q.B F id r e body → (∀ j r0,j ≠ id → Q.rows.get j = some r0 → F.get (fileB j r0.ep r0.cnt) = Q.D.now.get (fileB j r0.ep r0.cnt)) → P Q.B F) :
    Wrote P0 P m Q lf id r e body (Q.wrote (fileB id r.ep r.cnt) text id r (if Q.rows.has id = true then some (slFile Q.rows id) else none)):=by
  have hfi:=file_index id r.ep r.cnt
  have hfr:=file_ring id r.ep r.cnt
  have hfl:=file_led id r.ep r.cnt
  have hfq:=file_queue id r.ep r.cnt
  obtain ⟨file,hfile⟩ : ∃ f,fileB id r.ep r.cnt = f:=⟨_,rfl⟩
  rw [hfile] at hfi hfr hfl hfq hfresh ⊢
  have hF1 : Holds m Q.B (Q.D.now.put file text) Q.rows Q.last Q.ring lf:=h.holds.other text hfi hfr hfl (fun j r0 hj e => absurd e.symm (hfresh j r0 hj))
  have hsf1 : SameFiles Q.rows (Q.D.now.put file text) Q.D.now:=fun j r0 hj => by rw [fs_get_put,if_neg (Ne.symm (hfresh j r0 hj))]
  rw [wrote_eq]
  rcases (write_did Q.D file text).good h.hist (fun _ h => h) (hold Q.B _ lf (Bx.le.refl _) hF1 hsf1) with ⟨g1,g2,g3⟩ | ⟨g1,g2,g3⟩ | ⟨g1,g2,g3,g4⟩
  · rw [if_pos g2,g1]
    exact .no g2 h rfl rfl rfl (Bx.le.refl _) (SameFiles.refl _ _) (fun _ _ hk => hk) (fun _ _ _ hk => hk)
  · rw [if_pos (by rw [g1]; decide)]
    exact .down g1 g2 (g3.mono h01) (Bx.le.refl _)
  · rw [if_neg (by simp [g1])]
    clear g1
    generalize (Q.D.write file text).1 = D1 at *
    have hD1 : Holds m Q.B D1.now Q.rows Q.last Q.ring lf:=by rw [g3]; exact hF1
    have hO1 : Opens m Q.B D1.now id r e body:=⟨⟨text,by rw [g3,hfile,fs_get_put,if_pos rfl],ho⟩,e1,e2,e3,e4⟩
    have hF2:=hD1.row hx (fun _ => by have:=h.mem (ringKey r.dom r.ep); omega) (fun _ => ⟨⟨e,body,hO1⟩,hl⟩)
    have hO2 : Opens m Q.B (D1.now.put indexB ((D1.now.get indexB).getD [] ++ slRow id r)) id r e body:=hO1.get (by rw [fs_get_put,if_neg (Ne.symm (file_index _ _ _))])
    have hoth : ∀ j r0,j ≠ id → Q.rows.get j = some r0 → (D1.now.put indexB ((D1.now.get indexB).getD [] ++ slRow id r)).get (fileB j r0.ep r0.cnt) = Q.D.now.get (fileB j r0.ep r0.cnt):=fun j r0 _ hr => by
      rw [fs_get_put,if_neg (Ne.symm (file_index _ _ _)),g3,fs_get_put,if_neg (Ne.symm (hfresh j r0 hr))]
    have hDf : D1.now.get file ≠ none:=by rw [g3,fs_get_put,if_pos rfl]; simp
    rw [lay_sync]
    rcases (addSync_did D1 indexB (slRow id r)).good g4 h01 (hnew _ hF2 hO2 hoth) with ⟨k1,k2,k3⟩ | ⟨k1,k2,k3⟩ | ⟨k1,k2,k3,k4⟩
    · dsimp only
      rw [if_pos k2,if_pos k2,k1]
      dsimp only
      have hF3 : Holds m Q.B (D1.now.del file) Q.rows Q.last Q.ring lf:=hD1.gone hfi hfr hfl (fun j r0 hj => Ne.symm (hfresh j r0 hj))
      have hsf3 : SameFiles Q.rows (D1.now.del file) Q.D.now:=fun j r0 hj => by rw [fs_get_del,if_neg (hfresh j r0 hj),g3,fs_get_put,if_neg (Ne.symm (hfresh j r0 hj))]
      rcases (remove_did D1 file).good g4 (fun _ h => h) (hold Q.B _ lf (Bx.le.refl _) hF3 hsf3) with ⟨j1,j2,j3⟩ | ⟨j1,j2,j3⟩ | ⟨j1,j2,j3,j4⟩
      · exfalso
        rcases remove_has hDf with hh | hh
        · exact j3 hh
        · exact j2 hh
      · exact .lost k2 j2 j3 (Bx.le.refl _)
      · refine .no k2 ⟨by rw [j3]; exact hF3,j2,j4,h.mem,h.used⟩ rfl rfl rfl (Bx.le.refl _) (fun j r0 hj => by rw [j3]; exact hsf3 j r0 hj) (fun k _ hk => ?_) (fun k hq _ hk => ?_)
        · rw [j3,fs_get_del,g3,fs_get_put] at hk
          by_cases e : k = file
          · rw [if_pos e] at hk
            exact absurd rfl hk
          · rw [if_neg e,if_neg (Ne.symm e)] at hk
            exact hk
        · rw [j3,fs_get_del,g3,fs_get_put]
          by_cases e : k = file
          · rw [e,hfq] at hq; cases hq
          · rw [if_neg e,if_neg (Ne.symm e)]
            exact hk
    · have hk0 : (addSync D1 indexB (slRow id r)).2 ≠ 0:=by rw [k1]; decide
      dsimp only
      rw [if_pos hk0,if_pos hk0]
      dsimp only
      rw [remove_dead k2]
      exact .down k1 k2 k3 (Bx.le.refl _)
    · dsimp only
      have hk0 : ¬ (addSync D1 indexB (slRow id r)).2 ≠ 0:=by rw [k1]; simp
      rw [if_neg hk0,if_neg (by simp)]
      generalize (addSync D1 indexB (slRow id r)).1 = D2 at *
      have hD2 : Holds m Q.B D2.now (slKnows Q.rows id r) (max Q.last id) Q.ring lf:=by rw [k3]; exact hF2
      have hused : ∀ j r0,(slKnows Q.rows id r).get j = some r0 → r0.cnt < (lgOf Q.led (ringKey r0.dom r0.ep)).c:=by
        intro j r0 hj
        rw [slKnows_get] at hj
        split at hj
        · first | (rw [if_neg hep] at hj; cases hj; exact hcnt) | (cases hj; exact hcnt)
        · exact h.used j r0 hj
      have hG : Good P m (({ Q with D:=D2 } : Sq).know id r) lf:=⟨hD2,k2,k4,h.mem,hused⟩
      have hget : ∀ k,k ≠ file → k ≠ indexB → D2.now.get k = Q.D.now.get k:=fun k h1 h2 => by rw [k3,fs_get_put,if_neg (Ne.symm h2),g3,fs_get_put,if_neg (Ne.symm h1)]
      have htidy : ∀ k,k ≠ ledB → D2.now.get k ≠ none → k = file ∨ Q.D.now.get k ≠ none:=fun k _ hk => by
        by_cases e1 : k = file
        · exact .inl e1
        · by_cases e2 : k = indexB
          · rw [e2]; exact .inr hI
          · rw [hget k e1 e2] at hk
            exact .inr hk
      have hkeep : ∀ k,queueB.isPrefixOf k = false → k ≠ ledB → Q.D.now.get k ≠ none → D2.now.get k ≠ none:=fun k hq _ hk => by
        by_cases e2 : k = indexB
        · rw [e2,k3,fs_get_put,if_pos rfl]; simp
        · rw [hget k (fun e => by rw [e,hfq] at hq; cases hq) e2]
          exact hk
      cases hg : Q.rows.get id with
      | none =>
        have hh : Q.rows.has id = false:=by rw [Mn.has_eq,hg]; rfl
        rw [if_neg (by simp [hh])]
        refine .did rfl hG rfl rfl rfl (Bx.le.refl _) ?_ (fun j r0 hj hr => ?_) (fun k hk hk2 => ?_) hkeep
        · show Opens m Q.B D2.now id r e body
          rw [k3]; exact hO2
        · show D2.now.get _ = _
          rw [k3]; exact hoth j r0 hj hr
        · rw [hfile]
          exact (htidy k hk hk2).imp (fun h => h) fun hh => ⟨hh,fun r0 hr0 => by rw [hg] at hr0; cases hr0⟩
      | some r0 =>
        have hh : Q.rows.has id = true:=by rw [Mn.has_eq,hg]; rfl
        have hsl : slFile Q.rows id = fileB id r0.ep r0.cnt:=by unfold slFile; rw [rowAt_get hg]
        have hne:=hfresh id r0 hg
        rw [if_pos hh,hsl]
        dsimp only
        rw [if_neg hne]
        have hoi:=file_index id r0.ep r0.cnt
        have hor:=file_ring id r0.ep r0.cnt
        have hol:=file_led id r0.ep r0.cnt
        have hoq:=file_queue id r0.ep r0.cnt
        have hoget : D2.now.get (fileB id r0.ep r0.cnt) ≠ none:=by
          rw [hget _ hne hoi]
          obtain ⟨⟨_,_,⟨t,ht,_⟩,_⟩,_⟩:=h.holds.right id r0 hg
          rw [ht]; simp
        have hnr : ∀ j r1,(slKnows Q.rows id r).get j = some r1 → fileB id r0.ep r0.cnt ≠ fileB j r1.ep r1.cnt:=by
          intro j r1 hj hf
          obtain ⟨i1,i2,i3⟩:=fileB_inj hf
          rw [slKnows_get,← i1,if_pos rfl,if_neg hep] at hj
          cases hj
          exact hne (by rw [i2,i3]; exact hfile)
        have hF4 : Holds m Q.B (D2.now.del (fileB id r0.ep r0.cnt)) (slKnows Q.rows id r) (max Q.last id) Q.ring lf:=hD2.gone hoi hor hol hnr
        have hO4 : Opens m Q.B (D2.now.del (fileB id r0.ep r0.cnt)) id r e body:=(show Opens m Q.B D2.now id r e body by rw [k3]; exact hO2).get (by rw [fs_get_del,hfile,if_neg (Ne.symm hne)])
        have hoth4 : ∀ j r1,j ≠ id → Q.rows.get j = some r1 → (D2.now.del (fileB id r0.ep r0.cnt)).get (fileB j r1.ep r1.cnt) = Q.D.now.get (fileB j r1.ep r1.cnt):=fun j r1 hj hr => by
          rw [fs_get_del,if_neg (fun hf => hj (fileB_inj hf).1),k3]
          exact hoth j r1 hj hr
        rcases (remove_did D2 (fileB id r0.ep r0.cnt)).good k4 (fun _ h => h) (hnew _ hF4 hO4 hoth4) with ⟨j1,j2,j3⟩ | ⟨j1,j2,j3⟩ | ⟨j1,j2,j3,j4⟩
        · exfalso
          rcases remove_has hoget with hh | hh
          · exact j3 hh
          · exact j2 hh
        · exact .down j1 j2 j3 (Bx.le.refl _)
        · refine .did j1 ⟨by show Holds m Q.B (D2.remove _).1.now _ _ _ _; rw [j3]; exact hF4,j2,j4,h.mem,hused⟩ rfl rfl rfl (Bx.le.refl _) ?_ (fun j r1 hj hr => ?_) (fun k hk hk2 => ?_) (fun k hq hk hk2 => ?_)
          · show Opens m Q.B (D2.remove _).1.now id r e body
            rw [j3]; exact hO4
          · show (D2.remove _).1.now.get _ = _
            rw [j3]; exact hoth4 j r1 hj hr
          · have hk3 : (D2.remove (fileB id r0.ep r0.cnt)).1.now.get k ≠ none:=hk2
            rw [j3,fs_get_del] at hk3
            by_cases ek : k = fileB id r0.ep r0.cnt
            · rw [if_pos ek] at hk3
              exact absurd rfl hk3
            · rw [if_neg ek] at hk3
              rw [hfile]
              exact (htidy k hk hk3).imp (fun h => h) fun hh => ⟨hh,fun r1 hr1 => by rw [hg] at hr1; cases hr1; exact ek⟩
          · show (D2.remove _).1.now.get k ≠ none
            rw [j3,fs_get_del,if_neg (fun e => by rw [e,hoq] at hq; cases hq)]
            exact hkeep k hq hk hk2
end
end
section
open Go.RowKit Go.Maps
section
variable {P P0 : Bx → Fs → Prop} {m : Bs} {Q Q1 : Sq} {c : Sc} {n : Nat} {lf : List LRow}
theorem sealed_le (Q : Sq) (c : Sc) (e : En) (body : Bs) : Q.B.le (Q.sealed c e body).1.B:=by
  unfold Sq.sealed
  split
  · exact Bx.le.refl _
  · split
    · exact Bx.le.refl _
    · exact slSeal_le _ _ _ _
theorem Wrote.from {id : Nat} {r : Row3} {e : En} {body : Bs} {R : Sq × Int} (h : Wrote P0 P m Q1 lf id r e body R) (h1 : Q1.rows = Q.rows) (h2 : Q1.last = Q.last) (h3 : Q1.ring = Q.ring) (h4 : Q.B.le Q1.B) (h5 : ∀ k,k ≠ ledB → Q1.D.now.get k = Q.D.now.get k) : Wrote P0 P m Q lf id r e body R:=by
  cases h with
  | down a1 a2 a3 a4 => exact .down a1 a2 a3 (h4.trans a4)
  | lost a1 a2 a3 a4 => exact .lost a1 a2 a3 (h4.trans a4)
  | no a1 a2 a3 a4 a5 a6 a7 a8 a9 =>
    refine .no a1 a2 (a3.trans h1) (a4.trans h2) (a5.trans h3) (h4.trans a6) (fun j r0 hj => ?_) (fun k hk hh => ?_) (fun k hq hk hh => ?_)
    · rw [a7 j r0 (by rw [h1]; exact hj),h5 _ (file_led _ _ _)]
    · rw [← h5 k hk]; exact a8 k hk hh
    · exact a9 k hq hk (by rw [h5 k hk]; exact hh)
  | did a1 a2 a3 a4 a5 a6 a7 a8 a9 b1 =>
    refine .did a1 a2 (by rw [a3,h1]) (by rw [a4,h2]) (a5.trans h3) (h4.trans a6) a7 (fun j r0 hj hr => ?_) (fun k hk hh => ?_) (fun k hq hk hh => ?_)
    · rw [a8 j r0 hj (by rw [h1]; exact hr),h5 _ (file_led _ _ _)]
    · rcases a9 k hk hh with hh | ⟨g1,g2⟩
      · exact .inl hh
      · exact .inr ⟨by rw [← h5 k hk]; exact g1,fun r0 hr0 => g2 r0 (by rw [h1]; exact hr0)⟩
    · exact b1 k hq hk (by rw [h5 k hk]; exact hh)
theorem Old.from (hold : Old P0 m Q) (h1 : Q1.rows = Q.rows) (h2 : Q1.last = Q.last) (h3 : Q1.ring = Q.ring) (h4 : Q.B.le Q1.B) (h5 : SameFiles Q.rows Q1.D.now Q.D.now) : Old P0 m Q1:=by
  intro B F lf hB hF hs
  rw [h1,h2,h3] at hF
  rw [h1] at hs
  exact hold B F lf (h4.trans hB) hF (fun j r0 hj => (hs j r0 hj).trans (h5 j r0 hj))
def Sq.row (Q : Sq) (c : Sc) (e : En) : Row3:=⟨e.dom,(Q.entry c e).ep,(Q.entry c e).cnt⟩
theorem write_good (h : Good P0 m Q lf) (hok : SlOk c n Q) (hmk : c.master = m) (hmo : Mono P0) (h01 : ∀ B F,P0 B F → P B F) (hold : Old P0 m Q) (hI : Q.D.now.get indexB ≠ none) (e : En) (body : Bs) (hid : e.id ≤ 1099511627776) (hown : ∀ r0,Q.rows.get e.id = some r0 → r0.dom = e.dom)
    (hnew : ∀ B F lf2,Q.B.le B → Holds m B F (slKnows Q.rows e.id (Q.row c e)) (max Q.last e.id) Q.ring lf2 → Opens m B F e.id (Q.row c e) (Q.entry c e) body → (∀ j r0,j ≠ e.id → Q.rows.get j = some r0 → F.get (fileB j r0.ep r0.cnt) = Q.D.now.get (fileB j r0.ep r0.cnt)) → P B F) :
    ∃ lf2,Wrote P0 P m Q lf2 e.id (Q.row c e) (Q.entry c e) body (Q.write c e body):=by
  have hen:=hok.entry e
  have hle:=sealed_le Q c e body
  rcases sealed_good h hmk hok.step.1 hok.most hok.slim hmo hold e body with ⟨d1,d2,d3⟩ | ⟨lf2,d1,d2,d3,d4,d5,d6,d7⟩
  · refine ⟨lf,?_⟩
    rw [write_eq,if_pos (by rw [d2]; decide)]
    exact .down d2 d1 (d3.mono (fun F hF => h01 _ F hF)) hle
  · refine ⟨lf2,?_⟩
    rw [write_eq]
    have hsf : SameFiles Q.rows (Q.sealed c e body).1.D.now Q.D.now:=fun j r0 _ => d6 _ (file_led _ _ _)
    split
    · rename_i h0
      exact .no h0 d1 d2 d3 d4 d5 hsf (fun k hk hh => by rw [← d6 k hk]; exact hh) (fun k _ hk hh => by rw [d6 k hk]; exact hh)
    · rename_i h0
      obtain ⟨f1,f2,f3,f4,f5⟩:=d7 (Classical.byContradiction fun hh => h0 hh)
      have hpt:=enMay_parts f2
      have hep : (Q.entry c e).ep ≠ 0:=by have:=hpt.ep; omega
      have hw:=wrote_good (P:=P) (r:=Q.row c e) (id:=e.id) d1 (fun F hF => h01 _ F hF) (hold.from d2 d3 d4 d5 hsf) (by rw [d6 _ index_led]; exact hI) ⟨hid,f1,by show (Q.entry c e).ep ≤ _; omega,hen.2⟩ f3 rfl rfl rfl rfl hep
        (by
          rw [d4]
          show ringLive Q.ring e.dom (Q.entry c e).ep = true
          unfold ringLive
          have : (Q.entry c e).ep = (ringState Q.ring e.dom).now:=rfl
          simp [this]
          omega) f5
        (fun j r0 hj hf => by
          rw [d2] at hj
          obtain ⟨i1,i2,i3⟩:=fileB_inj hf
          subst i1
          have h1:=h.used _ r0 hj
          have h2 : r0.ep = Q.epoch e.dom:=i2
          have h3 : r0.cnt = (Q.entry c e).cnt:=i3
          rw [hown r0 hj,h2,h3,f4] at h1
          omega)
        (fun F hF hO hoth => hnew _ F lf2 d5 (by rw [d2,d3,d4] at hF; exact hF) hO (fun j r0 hj hr => by rw [hoth j r0 hj (by rw [d2]; exact hr),d6 _ (file_led _ _ _)]))
      have e1 : (if (Q.sealed c e body).1.rows.has e.id = true then some (slFile (Q.sealed c e body).1.rows e.id) else none) = (if Q.rows.has e.id = true then some (slFile Q.rows e.id) else none):=by rw [d2]
      rw [e1] at hw
      exact hw.from d2 d3 d4 d5 d6
theorem open_right (h : Holds m Q.B Q.D.now Q.rows Q.last Q.ring lf) (hf : RowsFit Q.rows) {id : Nat} {r : Row3} (hr : Q.rows.get id = some r) : ∃ e body,Opens m Q.B Q.D.now id r e body ∧ Q.open m id = (e,body,true):=by
  obtain ⟨⟨e,body,ho⟩,hl⟩:=h.right id r hr
  refine ⟨e,body,ho,?_⟩
  obtain ⟨⟨t,ht,hop⟩,h1,h2,h3,h4⟩:=ho
  have hra:=rowAt_get hr
  have hsl : slFile Q.rows id = fileB id r.ep r.cnt:=by unfold slFile; rw [hra]
  have hd : r.dom.length ≤ 255:=(hf _ (Mn.get_mem hr)).2.1
  unfold Sq.open
  rw [hsl,hra,if_pos (by rw [Fs.has_eq,ht]; rfl),if_pos hd,ht]
  simp only [Option.getD_some]
  rw [hop,if_pos]
  unfold slRight
  simp only [Bool.and_eq_true,decide_eq_true_eq]
  exact ⟨⟨⟨⟨⟨trivial,h1⟩,h2⟩,h3⟩,h4⟩,hl⟩
theorem load_none {id : Nat} (h : Q.rows.get id = none) : Q.load m id = (Q,En.zero,[],10):=by
  rw [load_eq,if_pos (by rw [Mn.has_eq,h]; rfl)]
theorem load_some (h : Holds m Q.B Q.D.now Q.rows Q.last Q.ring lf) (hf : RowsFit Q.rows) {id : Nat} {r : Row3} (hr : Q.rows.get id = some r) : ∃ e body,Opens m Q.B Q.D.now id r e body ∧ Q.load m id = (Q,e,body,0):=by
  obtain ⟨e,body,ho,hq⟩:=open_right h hf hr
  refine ⟨e,body,ho,?_⟩
  rw [load_eq,if_neg (by rw [Mn.has_eq,hr]; simp),if_pos (by rw [hq]),hq]
end
end
section
open Go.RowKit Go.Maps
def Calm (D : Dk) : Prop:=D.dead = false ∧ D.fuse < 0
def Keep (k : Bs) (D D2 : Dk) : Prop:=Calm D → Calm D2 ∧ (D.now.get k ≠ none → D2.now.get k ≠ none)
theorem Keep.refl (k : Bs) (D : Dk) : Keep k D D:=fun h => ⟨h,fun hh => hh⟩
theorem Keep.trans {k : Bs} {A B C : Dk} (h1 : Keep k A B) (h2 : Keep k B C) : Keep k A C:=fun h => ⟨(h2 (h1 h).1).1,fun hh => (h2 (h1 h).1).2 ((h1 h).2 hh)⟩
theorem Did.keep {k : Bs} {D : Dk} {F : Fs} {R : Dk × Int} (h : Did D F R) (hF : D.now.get k ≠ none → F.get k ≠ none) : Keep k D R.1:=fun hc => by
  rcases h.alive hc.1 hc.2 with ⟨h1,_⟩ | ⟨_,h2,h3,h4,_⟩
  · rw [h1]; exact ⟨hc,fun hh => hh⟩
  · exact ⟨⟨h2,h4⟩,fun hh => by rw [h3]; exact hF hh⟩
theorem put_keep {F : Fs} {k n v : Bs} (h : F.get k ≠ none) : (F.put n v).get k ≠ none:=by
  rw [fs_get_put]
  split
  · simp
  · exact h
theorem write_keep (k : Bs) (D : Dk) (n d : Bs) : Keep k D (D.write n d).1:=(write_did D n d).keep put_keep
theorem remove_keep {k : Bs} (D : Dk) {n : Bs} (hn : k ≠ n) : Keep k D (D.remove n).1:=(remove_did D n).keep (fun h => by rw [fs_get_del,if_neg hn]; exact h)
theorem addSync_keep (k : Bs) (D : Dk) (n d : Bs) : Keep k D (addSync D n d).1:=(addSync_did D n d).keep put_keep
theorem ledNext_keep (k : Bs) (D : Dk) (M : Mp Cnt) (step most : Nat) (x : Bs) : Keep k D (ledNextN D M step most x).1:=by
  unfold ledNextN
  split
  · exact Keep.refl _ _
  · split
    · exact Keep.refl _ _
    · split
      · split
        · exact addSync_keep _ _ _ _
        · exact addSync_keep _ _ _ _
      · exact Keep.refl _ _
theorem lay_keep (k : Bs) (Q : Sq) (id : Nat) (r : Row3) : Keep k Q.D (Q.lay id r).1.D:=by
  rw [lay_sync]
  split
  · exact addSync_keep _ _ _ _
  · exact addSync_keep _ _ _ _
theorem sealed_keep (k : Bs) (Q : Sq) (c : Sc) (e : En) (body : Bs) : Keep k Q.D (Q.sealed c e body).1.D:=by
  have h:=ledNext_keep k Q.D Q.led c.step c.most (ringKey e.dom (Q.epoch e.dom))
  unfold Sq.sealed
  split
  · exact h
  · split
    · exact h
    · exact h
theorem not_queue {k : Bs} (hk : queueB.isPrefixOf k = false) (id n o : Nat) : k ≠ fileB id n o:=fun e => by rw [e,file_queue] at hk; cases hk
theorem write_keeps {k : Bs} (hk : queueB.isPrefixOf k = false) (Q : Sq) (c : Sc) (e : En) (body : Bs) : Keep k Q.D (Q.write c e body).1.D:=by
  rw [write_eq]
  split
  · exact sealed_keep k Q c e body
  · refine (sealed_keep k Q c e body).trans ?_
    generalize (Q.sealed c e body).1 = Q1
    rw [wrote_eq]
    split
    · exact write_keep k Q1.D _ _
    · refine (write_keep k Q1.D (fileB e.id (Q.entry c e).ep (Q.entry c e).cnt) (Q.sealed c e body).2.1).trans ?_
      generalize hD : (Q1.D.write (fileB e.id (Q.entry c e).ep (Q.entry c e).cnt) (Q.sealed c e body).2.1).1 = D2
      split
      · exact (lay_keep k { Q1 with D:=D2 } _ _).trans (remove_keep _ (not_queue hk _ _ _))
      · split
        · exact lay_keep k { Q1 with D:=D2 } _ _
        · split
          · exact lay_keep k { Q1 with D:=D2 } _ _
          · rename_i o ho _
            refine (lay_keep k { Q1 with D:=D2 } _ _).trans (remove_keep _ ?_)
            split at ho
            · cases ho
              exact not_queue hk _ _ _
            · cases ho
abbrev Top : Bx → Fs → Prop:=fun _ _ => True
structure Up (m : Bs) (Q : Sq) : Prop where
  good : ∃ lf,Good Top m Q lf
  calm : Calm Q.D
  hasI : Q.D.now.get indexB ≠ none
  hasR : Q.D.now.get ringB ≠ none
  hasL : Q.D.now.get ledB ≠ none
  tidy : ∀ k,Q.D.now.get k ≠ none → k = indexB ∨ k = ringB ∨ k = ledB ∨ ∃ id r,Q.rows.get id = some r ∧ k = fileB id r.ep r.cnt
section
variable {m : Bs} {Q : Sq} {c : Sc} {n : Nat}
theorem Up.write (h : Up m Q) (hok : SlOk c n Q) (hmk : c.master = m) (e : En) (body : Bs) (hid : e.id ≤ 1099511627776) (hown : ∀ r0,Q.rows.get e.id = some r0 → r0.dom = e.dom) :
    Up m (Q.write c e body).1 ∧ (Q.write c e body).1.last = (if (Q.write c e body).2 = 0 then max Q.last e.id else Q.last):=by
  obtain ⟨lf,hg⟩:=h.good
  have k1:=write_keeps (k:=indexB) (by decide) Q c e body h.calm
  have k2:=write_keeps (k:=ringB) (by decide) Q c e body h.calm
  have k3:=write_keeps (k:=ledB) (by decide) Q c e body h.calm
  obtain ⟨lf2,hw⟩:=write_good (P:=Top) hg hok hmk (fun _ _ _ _ h => h) (fun _ _ h => h) (fun _ _ _ _ _ _ => trivial) h.hasI e body hid hown (fun _ _ _ _ _ _ _ => trivial)
  have hdead:=k1.1.1
  cases hw with
  | down a1 a2 _ _ => rw [a2] at hdead; cases hdead
  | lost a1 a2 _ _ => rw [a2] at hdead; cases hdead
  | no a1 a2 a3 a4 a5 a6 a7 a8 a9 =>
    refine ⟨⟨⟨lf2,a2⟩,k1.1,k1.2 h.hasI,k2.2 h.hasR,k3.2 h.hasL,fun k hk => ?_⟩,by rw [if_neg a1,a4]⟩
    by_cases hl : k = ledB
    · exact .inr (.inr (.inl hl))
    · rw [a3]
      exact h.tidy k (a8 k hl hk)
  | did a1 a2 a3 a4 a5 a6 a7 a8 a9 b1 =>
    refine ⟨⟨⟨lf2,a2⟩,k1.1,k1.2 h.hasI,k2.2 h.hasR,k3.2 h.hasL,fun k hk => ?_⟩,by rw [if_pos a1,a4]⟩
    have hep : (Q.row c e).ep ≠ 0:=by
      obtain ⟨⟨t,_,ht⟩,_,_,h5,_⟩:=a7
      have:=opened_ok (B:=(Q.write c e body).1.B) (key:=keyB m (Q.row c e).dom (Q.row c e).ep) (t:=t) (by rw [ht])
      rw [ht] at this
      have:=(enMay_parts this).ep
      dsimp only at this
      rw [h5] at this
      omega
    by_cases hl : k = ledB
    · exact .inr (.inr (.inl hl))
    · rcases a9 k hl hk with hh | ⟨g1,g2⟩
      · refine .inr (.inr (.inr ⟨e.id,Q.row c e,?_,hh⟩))
        rw [a3,slKnows_get,if_pos rfl,if_neg hep]
      · rcases h.tidy k g1 with t | t | t | ⟨j,r1,hj,hjk⟩
        · exact .inl t
        · exact .inr (.inl t)
        · exact .inr (.inr (.inl t))
        · refine .inr (.inr (.inr ⟨j,r1,?_,hjk⟩))
          rw [a3,slKnows_get]
          by_cases hje : j = e.id
          · rw [hje] at hj hjk
            exact absurd hjk (g2 r1 hj)
          · rw [if_neg hje]
            exact hj
theorem Up.holds (h : Up m Q) : ∃ lf,Holds m Q.B Q.D.now Q.rows Q.last Q.ring lf:=by
  obtain ⟨lf,hg⟩:=h.good
  exact ⟨lf,hg.holds⟩
theorem Up.load (h : Up m Q) (hok : SlOk c n Q) (id : Nat) : (Q.load m id).1 = Q ∧ ((Q.load m id).2.2.2 = 0 → ∃ r,Q.rows.get id = some r ∧ (Q.load m id).2.1.id = id ∧ (Q.load m id).2.1.dom = r.dom) ∧ ((Q.load m id).2.2.2 ≠ 0 → Q.rows.get id = none):=by
  obtain ⟨lf,hh⟩:=h.holds
  cases hg : Q.rows.get id with
  | none =>
    rw [load_none hg]
    exact ⟨rfl,fun hz => absurd hz (show (10 : Int) ≠ 0 by decide),fun _ => rfl⟩
  | some r =>
    obtain ⟨e,body,ho,hl⟩:=load_some hh hok.fit hg
    rw [hl]
    exact ⟨rfl,fun _ => ⟨r,rfl,ho.id,ho.dom⟩,fun hz => absurd rfl hz⟩
theorem Up.put (h : Up m Q) (hok : SlOk c n Q) (hmk : c.master = m) (e : En) (body : Bs) : Up m (Q.put c e body).1:=by
  rw [put_eq]
  split
  · exact h
  · split
    · exact h
    · split
      · exact h
      · rename_i hl
        obtain ⟨lf,hh⟩:=h.holds
        have hla:=hok.last
        have hw:=(h.write hok hmk { e with id:=Q.last + 1 } body (by dsimp only; omega) (fun r0 hr0 => by have:=hh.below hr0; dsimp only at this; omega)).1
        split
        · exact hw
        · exact hw
theorem Up.update (h : Up m Q) (hok : SlOk c n Q) (hmk : c.master = m) (e : En) : Up m (Q.update c e).1:=by
  obtain ⟨l1,l2,l3⟩:=h.load hok e.id
  rw [← hmk] at l1 l2 l3
  rw [update_eq]
  split
  · rw [l1]; exact h
  · rename_i h0
    obtain ⟨r,hr,hi,hd⟩:=l2 (Classical.byContradiction fun hh => h0 hh)
    split
    · rw [l1]; exact h
    · rename_i hmay
      split
      · rw [l1]; exact h
      · rename_i hdom
        rw [l1]
        have hid:=(hok.fit _ (Mn.get_mem hr)).1
        exact (h.write hok hmk e _ hid (fun r0 hr0 => by
          rw [hr] at hr0
          cases hr0
          rw [← hd]
          exact (Classical.byContradiction fun hh => hdom hh : e.dom = _).symm)).1
end
end
end Go.Proofs.YtangbdahnmomlaaGreatDoor
