/- spool, plainly: what files hold of a spool, and what each thing that is done to them keeps of it. No program. spool: sealed. Conditions: the lengths fit; what Go's variables hold. -/
import Derived.Test.YtangbdahnmomlaaGreatDoorBu18
import Derived.Test.YtangbdahnmomlaaGreatDoorBu30
set_option linter.unnecessarySimpa false
set_option linter.unusedSimpArgs false
set_option linter.unusedVariables false
set_option maxHeartbeats 4000000
set_option maxRecDepth 100000
namespace Go.Proofs.YtangbdahnmomlaaGreatDoor
section
open Go.RowKit Go.Maps
theorem fs_ins_eq (x : Bs × Bs) : ∀ F : Fs,Fs.ins x F = Mp.ins x F
  | [] => rfl
  | y :: r => by
    unfold Fs.ins Mp.ins
    rw [fs_ins_eq x r]
theorem fs_get_put (F : Fs) (k v j : Bs) : (F.put k v).get j = if k = j then some v else F.get j:=by
  have h:=Mp.get_put F k v j
  unfold Fs.put
  rw [fs_ins_eq]
  exact h
theorem fs_get_del (F : Fs) (k j : Bs) : (F.del k).get j = if j = k then none else F.get j:=Mp.get_del F k j
abbrev Row4:=Nat × Row3
def sl3 (l : List Row4) : Bs:=(l.map fun p => slRow p.1 p.2).flatten
def sl3Ok (p : Row4) : Prop:=p.1 ≤ 1099511627776 ∧ p.2.fit
theorem sl3_snoc (l : List Row4) (p : Row4) : sl3 (l ++ [p]) = sl3 l ++ slRow p.1 p.2:=by simp [sl3]
theorem slRead_back (id : Nat) (r : Row3) (rest : Bs) (hi : id ≤ 1099511627776) (hr : r.fit) : slRead ⟨slRow id r ++ rest,false⟩ = (id,r,true,⟨rest,false⟩):=by
  obtain ⟨d,n,o⟩:=r
  obtain ⟨h1,h2,h3⟩:=hr
  dsimp only at h1 h2 h3
  have l0:=numB_length_le id
  have l1:=textB_length_le d
  have l2:=numB_length_le n
  have l3:=numB_length_le o
  have e1:=text_back (numB id ++ (textB d ++ (numB n ++ numB o))) 400 rest (by simp only [List.length_append]; omega) (by simp only [List.length_append]; omega)
  have e2:=num_back id 1099511627776 (textB d ++ (numB n ++ numB o)) (by omega) hi
  have e3:=text_back d 255 (numB n ++ numB o) (by omega) h1
  have e4:=num_back n 1099511627776 (numB o) (by omega) h2
  have e5:=num_back o 1099511627776 [] (by omega) h3
  rw [List.append_nil] at e5
  unfold slRead slRow
  simp only [List.append_assoc,e1,e2,e3,e4,e5]
  rfl
theorem slRead_nil : (slRead ⟨[],false⟩).2.2.1 = false:=by decide
theorem sl3_back (l : List Row4) (h : ∀ p ∈ l,sl3Ok p) : slRowsOf (sl3 l) = l ∧ slRestOf (sl3 l) = []:=by
  induction l with
  | nil => exact slScan_stop slRead_nil
  | cons p r ih =>
    obtain ⟨i1,i2⟩:=ih (fun q hq => h q (by simp [hq]))
    have e : sl3 (p :: r) = slRow p.1 p.2 ++ sl3 r:=by simp [sl3]
    have hp:=h p (by simp)
    have hb:=slRead_back p.1 p.2 (sl3 r) hp.1 hp.2
    rw [e]
    have h1:=slScan_step (s:=slRow p.1 p.2 ++ sl3 r) (by rw [hb])
    rw [hb] at h1
    dsimp only at h1
    rw [h1.1,h1.2,i1,i2]
    exact ⟨rfl,rfl⟩
abbrev RRow3:=Bs × RSt
def ring3 (l : List RRow3) : Bs:=(l.map fun p => ringRow p.1 p.2).flatten
def ring3Ok (p : RRow3) : Prop:=p.1.length ≤ 255 ∧ p.2.now ≤ 1000000 ∧ p.2.old ≤ 1000000
theorem ring3_snoc (l : List RRow3) (p : RRow3) : ring3 (l ++ [p]) = ring3 l ++ ringRow p.1 p.2:=by simp [ring3]
theorem ringRead_back3 (d : Bs) (s : RSt) (rest : Bs) (h : ring3Ok (d,s)) : ringRead ⟨ringRow d s ++ rest,false⟩ = (d,s,true,⟨rest,false⟩):=by
  obtain ⟨h1,h2,h3⟩:=h
  dsimp only at h1 h2 h3
  have e1:=text_back (textB d ++ (numB s.now ++ numB s.old)) 300 rest (by
    have:=textB_length_le d; have:=numB_length_le s.now; have:=numB_length_le s.old
    simp only [List.length_append]; omega) (by
    have:=textB_length_le d; have:=numB_length_le s.now; have:=numB_length_le s.old
    simp only [List.length_append]; omega)
  have e2:=text_back d 255 (numB s.now ++ numB s.old) (by omega) h1
  have e3:=num_back s.now 1000000 (numB s.old) (by omega) h2
  have e4:=num_back s.old 1000000 [] (by omega) h3
  rw [List.append_nil] at e4
  unfold ringRead ringRow
  simp only [e1,e2,e3,e4]
  rfl
theorem ring3_back (l : List RRow3) (h : ∀ p ∈ l,ring3Ok p) : ringRows (ring3 l) = l ∧ ringRest (ring3 l) = []:=by
  induction l with
  | nil => exact ringScan_stop ringRead_nil
  | cons p r ih =>
    obtain ⟨i1,i2⟩:=ih (fun q hq => h q (by simp [hq]))
    have e : ring3 (p :: r) = ringRow p.1 p.2 ++ ring3 r:=by simp [ring3]
    have hb:=ringRead_back3 p.1 p.2 (ring3 r) (h p (by simp))
    rw [e]
    have h1:=ringScan_step (s:=ringRow p.1 p.2 ++ ring3 r) (by rw [hb])
    rw [hb] at h1
    dsimp only at h1
    rw [h1.1,h1.2,i1,i2]
    exact ⟨rfl,rfl⟩
theorem ringPuts_snoc3 (l : List RRow3) (p : RRow3) : ringPuts (l ++ [p]) = (ringPuts l).put p.1 p.2:=by simp [ringPuts]
def Bx.le (B B2 : Bx) : Prop:=∀ key n d s,(B.open key n d s).2 = 0 → B2.open key n d s = B.open key n d s
theorem Bx.le.refl (B : Bx) : B.le B:=fun _ _ _ _ _ => rfl
theorem Bx.le.trans {A B C : Bx} (h1 : A.le B) (h2 : B.le C) : A.le C:=fun k n d s h => by
  have e:=h1 k n d s h
  rw [← e]
  exact h2 k n d s (by rw [e]; exact h)
theorem slOpened_le {B B2 : Bx} (h : B.le B2) {key t body : Bs} {e : En} (ho : slOpened B key t = (e,body,0)) : slOpened B2 key t = (e,body,0):=by
  unfold slOpened enOpenV at ho ⊢
  by_cases h0 : (enSplit t).2.2.2 = 0
  · rw [if_pos h0] at ho ⊢
    by_cases h1 : (B.open key (nonceE (enSplit t).1.cnt) (enSplit t).2.1 (enSplit t).2.2.1).2 = 0
    · rw [h _ _ _ _ h1]
      exact ho
    · rw [if_neg h1] at ho
      exact absurd (congrArg (fun q => q.2.2) ho) h1
  · rw [if_neg h0] at ho
    exact absurd (congrArg (fun q => q.2.2) ho) h0
theorem bxSeal_le (T : Mp Sealed3) (D key n d t : Bs) : (Bx.ideal D T).le (Bx.ideal (bxSeal uB T D key n d t).2.1 (bxSeal uB T D key n d t).2.2):=by
  have hT : ∀ k x,T.get k = some x → (bxSeal uB T D key n d t).2.2.get k = some x:=by
    intro k x hx
    unfold bxSeal
    split
    · cases hg : T.get (uB key n) with
      | none =>
        dsimp only
        split
        · exact hx
        · dsimp only
          rw [Mp.get_put]
          split
          · rename_i e
            rw [e,hx] at hg
            cases hg
          · exact hx
      | some y =>
        dsimp only
        split <;> exact hx
    · exact hx
  intro k n2 d2 s h
  show bxOpen uB _ k n2 d2 s = bxOpen uB T k n2 d2 s
  have h' : (bxOpen uB T k n2 d2 s).2 = 0:=h
  obtain ⟨x,hx,_,_⟩:=bxOpen_ok uB h'
  unfold bxOpen
  rw [hx,hT _ _ hx]
theorem slSeal_le (B : Bx) (key : Bs) (e : En) (body : Bs) : B.le (slSeal B key e body).2:=by
  unfold slSeal
  dsimp only
  split
  · cases B with
    | real => exact Bx.le.refl _
    | ideal D T => exact bxSeal_le T D key _ _ _
  · exact Bx.le.refl _
theorem Bx.seal_open {B : Bx} (hB : B.slim) {key n d t : Bs} (hk : key.length = 32) (hn : n.length = 12) (hd : d.length ≤ 4096) (ht : t.length ≤ 16384) (h : (B.seal key n d t).1.2 = 0) :
    (B.seal key n d t).2.open key n d (B.seal key n d t).1.1 = (t,0):=by
  cases B with
  | real => exact (rl_back key n d t hd ht).2
  | ideal D T =>
    show bxOpen uB (bxSeal uB T D key n d t).2.2 key n d (bxSeal uB T D key n d t).1.1 = (t,0)
    have h' : (bxSeal uB T D key n d t).1.2 = 0:=h
    unfold bxSeal at h' ⊢
    have hc : key.length = 32 ∧ n.length = 12 ∧ d.length ≤ 4096 ∧ t.length ≤ 16384:=⟨hk,hn,hd,ht⟩
    rw [if_pos hc] at h' ⊢
    cases hg : T.get (uB key n) with
    | none =>
      rw [hg] at h'
      dsimp only at h' ⊢
      split at h'
      · cases h'
      · rename_i hl
        rw [if_neg hl]
        dsimp only
        unfold bxOpen
        rw [if_pos ⟨hk,hn,hd,by rw [List.length_take]; omega,by rw [List.length_take]; omega⟩,Mp.get_put,if_pos rfl]
        dsimp only
        rw [if_pos ⟨rfl,rfl⟩]
    | some x =>
      rw [hg] at h'
      dsimp only at h' ⊢
      split at h'
      · rename_i hx
        rw [if_pos hx]
        have hs:=hB.2 _ _ hg
        dsimp only
        unfold bxOpen
        rw [if_pos ⟨hk,hn,hd,by omega,by omega⟩,hg]
        dsimp only
        rw [if_pos ⟨hx.1,rfl⟩,hx.2]
      · cases h'
theorem slSeal_back {B : Bx} (hB : B.slim) {key : Bs} (hk : key.length = 32) {e : En} {body : Bs} (h : (slSeal B key e body).1.2 = 0) :
    enMay e = true ∧ body.length ≤ 16000 ∧ slOpened (slSeal B key e body).2 key (slSeal B key e body).1.1 = (e,body,0):=by
  unfold slSeal enSealV at h ⊢
  dsimp only at h ⊢
  by_cases he : enMay e = true
  · rw [if_pos he] at h ⊢
    by_cases hb : body.length ≤ 16000
    · rw [if_pos hb] at h ⊢
      rw [if_pos ⟨he,hb⟩]
      have hl:=fillB_length hb
      have hbl:=bucket_le (textB body).length
      have hh:=headB_len (enMay_parts he)
      by_cases hq : (B.seal key (nonceE e.cnt) (headB e) (fillB body)).1.2 = 0
      · rw [if_pos hq]
        refine ⟨he,hb,?_⟩
        dsimp only
        unfold slOpened enOpenV
        rw [split_file e he]
        dsimp only
        rw [if_pos rfl,Bx.seal_open hB hk (nonceE_length _) (by omega) (by omega) hq]
        dsimp only
        rw [if_pos rfl,unfill_fill hb,if_pos rfl]
      · rw [if_neg hq] at h
        exact absurd h hq
    · rw [if_neg hb] at h
      cases h
  · rw [if_neg he] at h
    cases h
structure Opens (m : Bs) (B : Bx) (F : Fs) (id : Nat) (r : Row3) (e : En) (body : Bs) : Prop where
  text : ∃ t,F.get (fileB id r.ep r.cnt) = some t ∧ slOpened B (keyB m r.dom r.ep) t = (e,body,0)
  id : e.id = id
  dom : e.dom = r.dom
  ep : e.ep = r.ep
  cnt : e.cnt = r.cnt
theorem Opens.le {m : Bs} {B B2 : Bx} {F : Fs} {id : Nat} {r : Row3} {e : En} {body : Bs} (h : Opens m B F id r e body) (hB : B.le B2) : Opens m B2 F id r e body:=by
  obtain ⟨⟨t,h1,h2⟩,h3,h4,h5,h6⟩:=h
  exact ⟨⟨t,h1,slOpened_le hB h2⟩,h3,h4,h5,h6⟩
theorem Opens.get {m : Bs} {B : Bx} {F F2 : Fs} {id : Nat} {r : Row3} {e : En} {body : Bs} (h : Opens m B F id r e body) (hF : F2.get (fileB id r.ep r.cnt) = F.get (fileB id r.ep r.cnt)) : Opens m B F2 id r e body:=by
  obtain ⟨⟨t,h1,h2⟩,h3,h4,h5,h6⟩:=h
  exact ⟨⟨t,by rw [hF,h1],h2⟩,h3,h4,h5,h6⟩
structure Holds (m : Bs) (B : Bx) (F : Fs) (rows : Mn Row3) (last : Nat) (rg : Mp RSt) (lf : List LRow) : Prop where
  sorted : F.Sorted
  index : ∃ l,(F.get indexB).getD [] = sl3 l ∧ (∀ p ∈ l,sl3Ok p) ∧ slLearn l = (rows,last)
  ring : ∃ l,(F.get ringB).getD [] = ring3 l ∧ (∀ p ∈ l,ring3Ok p) ∧ ringPuts l = rg
  led : (F.get ledB).getD [] = (lf.map LRow.text).flatten ∧ ∀ p ∈ lf,lrowOk p
  cnts : ∀ id r,rows.get id = some r → r.cnt < (lgOf (ledPuts lf) (ringKey r.dom r.ep)).ceil
  right : ∀ id r,rows.get id = some r → (∃ e body,Opens m B F id r e body) ∧ ringLive rg r.dom r.ep = true
theorem file_index (id n o : Nat) : fileB id n o ≠ indexB:=by simp [fileB,indexB]
theorem file_ring (id n o : Nat) : fileB id n o ≠ ringB:=by simp [fileB,ringB]
theorem file_led (id n o : Nat) : fileB id n o ≠ ledB:=by simp [fileB,ledB]
theorem index_ring : indexB ≠ ringB:=by decide
theorem index_led : indexB ≠ ledB:=by decide
theorem ring_led : ringB ≠ ledB:=by decide
section
variable {m : Bs} {B B2 : Bx} {F F2 : Fs} {rows : Mn Row3} {last : Nat} {ring : Mp RSt} {lf : List LRow}
theorem Holds.le (h : Holds m B F rows last ring lf) (hB : B.le B2) : Holds m B2 F rows last ring lf :=
  { h with right:=fun id r hr => by obtain ⟨⟨e,body,ho⟩,hl⟩:=h.right id r hr; exact ⟨⟨e,body,ho.le hB⟩,hl⟩ }
theorem Holds.congr (h : Holds m B F rows last ring lf) (hs : F2.Sorted) (h1 : (F2.get indexB).getD [] = (F.get indexB).getD []) (h2 : (F2.get ringB).getD [] = (F.get ringB).getD []) (h3 : (F2.get ledB).getD [] = (F.get ledB).getD [])
    (hf : ∀ id r,rows.get id = some r → F2.get (fileB id r.ep r.cnt) = F.get (fileB id r.ep r.cnt)) : Holds m B F2 rows last ring lf where
  sorted:=hs
  index:=by rw [h1]; exact h.index
  ring:=by rw [h2]; exact h.ring
  led:=by rw [h3]; exact h.led
  cnts:=h.cnts
  right:=fun id r hr => by
    obtain ⟨⟨e,body,ho⟩,hl⟩:=h.right id r hr
    exact ⟨⟨e,body,ho.get (hf id r hr)⟩,hl⟩
theorem Holds.other (h : Holds m B F rows last ring lf) {k : Bs} (v : Bs) (h1 : k ≠ indexB) (h2 : k ≠ ringB) (h3 : k ≠ ledB) (hf : ∀ id r,rows.get id = some r → k = fileB id r.ep r.cnt → F.get k = some v) : Holds m B (F.put k v) rows last ring lf:=by
  refine h.congr (h.sorted.put k v) (by rw [fs_get_put,if_neg h1]) (by rw [fs_get_put,if_neg h2]) (by rw [fs_get_put,if_neg h3]) fun id r hr => ?_
  rw [fs_get_put]
  split
  · rename_i e
    rw [← e]
    exact (hf id r hr e).symm
  · rfl
theorem Holds.gone (h : Holds m B F rows last ring lf) {k : Bs} (h1 : k ≠ indexB) (h2 : k ≠ ringB) (h3 : k ≠ ledB) (hf : ∀ id r,rows.get id = some r → k ≠ fileB id r.ep r.cnt) : Holds m B (F.del k) rows last ring lf:=by
  refine h.congr (h.sorted.del k) (by rw [fs_get_del,if_neg (Ne.symm h1)]) (by rw [fs_get_del,if_neg (Ne.symm h2)]) (by rw [fs_get_del,if_neg (Ne.symm h3)]) fun id r hr => ?_
  rw [fs_get_del,if_neg (Ne.symm (hf id r hr))]
theorem Holds.ledger (h : Holds m B F rows last ring lf) {x : LRow} (hx : lrowOk x) (hc : (lgOf (ledPuts lf) x.key).ceil ≤ x.ceil) : Holds m B (F.put ledB ((F.get ledB).getD [] ++ x.text)) rows last ring (lf ++ [x]) where
  sorted:=h.sorted.put _ _
  index:=by rw [fs_get_put,if_neg (Ne.symm index_led)]; exact h.index
  ring:=by rw [fs_get_put,if_neg (Ne.symm ring_led)]; exact h.ring
  led:=by
    refine ⟨by rw [fs_get_put,if_pos rfl,h.led.1]; simp,fun p hp => ?_⟩
    simp only [List.mem_append,List.mem_singleton] at hp
    rcases hp with hp | rfl
    · exact h.led.2 p hp
    · exact hx
  cnts:=fun id r hr => by
    have:=h.cnts id r hr
    rw [lgOf_puts]
    split
    · rename_i e
      rw [e] at hc
      exact Nat.lt_of_lt_of_le this hc
    · exact this
  right:=fun id r hr => by
    obtain ⟨⟨e,body,ho⟩,hl⟩:=h.right id r hr
    exact ⟨⟨e,body,ho.get (by rw [fs_get_put,if_neg (Ne.symm (file_led _ _ _))])⟩,hl⟩
theorem slKnows_get (M : Mn Row3) (id : Nat) (r : Row3) (j : Nat) : (slKnows M id r).get j = if j = id then (if r.ep = 0 then none else some r) else M.get j:=by
  unfold slKnows
  split
  · rw [Mn.get_del]
  · rw [Mn.get_put]
    by_cases h : j = id
    · rw [if_pos h,if_pos h.symm]
    · rw [if_neg h,if_neg (Ne.symm h)]
theorem Holds.row (h : Holds m B F rows last ring lf) {id : Nat} {r : Row3} (hx : sl3Ok (id,r)) (hc : r.ep ≠ 0 → r.cnt < (lgOf (ledPuts lf) (ringKey r.dom r.ep)).ceil) (hr : r.ep ≠ 0 → (∃ e body,Opens m B F id r e body) ∧ ringLive ring r.dom r.ep = true) :
    Holds m B (F.put indexB ((F.get indexB).getD [] ++ slRow id r)) (slKnows rows id r) (max last id) ring lf where
  sorted:=h.sorted.put _ _
  index:=by
    obtain ⟨l,h1,h2,h3⟩:=h.index
    refine ⟨l ++ [(id,r)],by rw [fs_get_put,if_pos rfl,h1,sl3_snoc]; rfl,fun p hp => ?_,?_⟩
    · simp only [List.mem_append,List.mem_singleton] at hp
      rcases hp with hp | rfl
      · exact h2 p hp
      · exact hx
    · rw [slLearn_snoc,h3]
  ring:=by rw [fs_get_put,if_neg index_ring]; exact h.ring
  led:=by rw [fs_get_put,if_neg index_led]; exact h.led
  cnts:=fun j r2 hr2 => by
    rw [slKnows_get] at hr2
    split at hr2
    · split at hr2
      · cases hr2
      · rename_i h0
        cases hr2
        exact hc h0
    · exact h.cnts j r2 hr2
  right:=fun j r2 hr2 => by
    have hne : ∀ (n o : Nat),(F.put indexB ((F.get indexB).getD [] ++ slRow id r)).get (fileB j n o) = F.get (fileB j n o):=fun n o => by rw [fs_get_put,if_neg (Ne.symm (file_index _ _ _))]
    rw [slKnows_get] at hr2
    split at hr2
    · rename_i e
      split at hr2
      · cases hr2
      · rename_i h0
        cases hr2
        obtain ⟨⟨e2,body,ho⟩,hl⟩:=hr h0
        rw [e]
        rw [e] at hne
        exact ⟨⟨e2,body,ho.get (hne _ _)⟩,hl⟩
    · obtain ⟨⟨e,body,ho⟩,hl⟩:=h.right j r2 hr2
      exact ⟨⟨e,body,ho.get (hne _ _)⟩,hl⟩
theorem Holds.state (h : Holds m B F rows last ring lf) {x : Bs} {s : RSt} (hx : ring3Ok (x,s)) (hl : ∀ id r,rows.get id = some r → ringLive (ring.put x s) r.dom r.ep = true) :
    Holds m B (F.put ringB ((F.get ringB).getD [] ++ ringRow x s)) rows last (ring.put x s) lf where
  sorted:=h.sorted.put _ _
  index:=by rw [fs_get_put,if_neg (Ne.symm index_ring)]; exact h.index
  ring:=by
    obtain ⟨l,h1,h2,h3⟩:=h.ring
    refine ⟨l ++ [(x,s)],by rw [fs_get_put,if_pos rfl,h1,ring3_snoc]; rfl,fun p hp => ?_,?_⟩
    · simp only [List.mem_append,List.mem_singleton] at hp
      rcases hp with hp | rfl
      · exact h2 p hp
      · exact hx
    · rw [ringPuts_snoc3,h3]
  led:=by rw [fs_get_put,if_neg ring_led]; exact h.led
  cnts:=h.cnts
  right:=fun id r hr => by
    obtain ⟨⟨e,body,ho⟩,_⟩:=h.right id r hr
    exact ⟨⟨e,body,ho.get (by rw [fs_get_put,if_neg (Ne.symm (file_ring _ _ _))])⟩,hl id r hr⟩
theorem learn_le : ∀ (l : List Row4) (q : Mn Row3 × Nat),(∀ id r,q.1.get id = some r → id ≤ q.2) → ∀ id r,(l.foldl (fun q p => (slKnows q.1 p.1 p.2,max q.2 p.1)) q).1.get id = some r → id ≤ (l.foldl (fun q p => (slKnows q.1 p.1 p.2,max q.2 p.1)) q).2
  | [],q,h => h
  | x :: l,q,h => learn_le l _ (fun id r hr => by
    dsimp only at hr ⊢
    rw [slKnows_get] at hr
    split at hr
    · omega
    · have:=h id r hr
      omega)
theorem Holds.below (h : Holds m B F rows last ring lf) {id : Nat} {r : Row3} (hr : rows.get id = some r) : id ≤ last:=by
  obtain ⟨l,_,_,h3⟩:=h.index
  have:=learn_le l ([],0) (fun id r hr => by simp [Mn.get] at hr) id r
  unfold slLearn at h3
  rw [h3] at this
  exact this hr
end
end
section
open Go.RowKit Go.Maps Go.Shelf
theorem ledNext_ok {D : Dk} {M : Mp Cnt} {step most : Nat} {x : Bs} (h : (ledNextN D M step most x).2.2.2 = 0) : x.length ≤ 300 ∧ (lgOf M x).c < most ∧ (lgOf (ledNextN D M step most x).2.1 x).c = (lgOf M x).c + 1:=by
  have put : ∀ v : Cnt,lgOf (M.put x v) x = v:=fun v => by unfold lgOf; rw [Mp.get_put,if_pos rfl]; rfl
  unfold ledNextN at h ⊢
  split at h
  · cases h
  · rename_i h1
    rw [if_neg h1]
    split at h
    · cases h
    · rename_i h2
      rw [if_neg h2]
      split at h
      · rename_i h3
        rw [if_pos h3]
        split at h
        · rename_i h4
          exact absurd h h4
        · rename_i h4
          rw [if_neg h4]
          exact ⟨by omega,by omega,by rw [put]⟩
      · rename_i h3
        rw [if_neg h3]
        exact ⟨by omega,by omega,by rw [put]⟩
theorem ringKey_len (x : Bs) (n : Nat) : (ringKey x n).length ≤ x.length + 18:=by
  have h1:=textB_length_le x
  have h2:=numB_length_le n
  unfold ringKey
  rw [List.length_append]
  omega
section
variable {w0 w : World} {L : List Res} {P : SlPt} {c : Sc} {Q : Sq} {v : Value} {q : Nat}
theorem slSealedS (e : En) (body : Bs) (n : Nat) (hd : e.dom.length ≤ 255) (hf : e.Fit) (h : SlOk c n Q) (hn : n ≤ 990000) (E : Env w0) (HT : ∀ (w' : World) (X : List Res),Sp w0 [] w' (X ++ L) → TosAt w' v e.rcs) (S : Sp w0 [] w (boxR q (enCells e v) 40 :: slPs P c Q L)) :
    Calls Tryz.prog 69 #[.pointer (some ⟨P.s,0,none⟩),.pointer (some ⟨q,0,none⟩),.string ⟨body.toArray⟩] w fun r w2 => ∃ e2,((Q.sealed c e body).2.2 = 0 → e2 = Q.entry c e) ∧ r = .returned (.tuple #[.string ⟨(Q.sealed c e body).2.1.toArray⟩,.int .i64 (Q.sealed c e body).2.2]) ∧ Sp w0 [] w2 (boxR q (enCells { e2 with rcs:=e.rcs } v) 40 :: slPs P c (Q.sealed c e body).1 L):=by
  have HV : Hid (Q.sealed c e body = _):=Lib.hid (Sq.sealed.eq_1 Q c e body)
  have HEN : Hid (Q.entry c e = { e with ep:=Q.epoch e.dom,cnt:=(lgOf (Q.next c e.dom).2.1 (ringKey e.dom (Q.epoch e.dom))).c - 1 }):=rfl
  have hst:=ringState_of h.ring e.dom
  have hne:=h.next e.dom
  have hok:=@ledNext_ok Q.D Q.led c.step c.most (ringKey e.dom (Q.epoch e.dom))
  have hmo:=h.most
  unfold Sq.next at HV HEN hne
  unfold Sq.epoch at HV HEN hne hok
  have hkl:=ringKey_len e.dom (ringState Q.ring e.dom).now
  have HRS:=Lib.hid (fun (w' : World) (K : List Res) (A B C D F G : Res) (S' : Sp w0 [] w' (A :: B :: C :: D :: F :: G :: ringR P.r P.d Q.ring :: K)) => (ringStateS e.dom ((Sp.pick [_,_,_,_,_,_,_] [6,0,1,2,3,4,5] (by decide) (S'))) (by unfold maxLen; omega)).mono (fun r w2 h => (⟨h.1,(Sp.pick [_,_,_,_,_,_,_] [1,2,3,4,5,6,0] (by decide) (h.2))⟩ : r = .returned (ringState Q.ring e.dom).agg ∧ Sp w0 [] w2 (A :: B :: C :: D :: F :: G :: ringR P.r P.d Q.ring :: K))))
  have HRK:=Lib.hid (fun (w' : World) (K : List Res) (S' : Sp w0 [] w' K) => ringKeyS e.dom (ringState Q.ring e.dom).now S' (by omega) (by omega))
  have HLN:=Lib.hid (fun (w' : World) (K : List Res) (S' : Sp w0 [] w' (ledR P.l P.d c.step c.most Q.led :: diskR P.d Q.D :: K)) => ledNextNS (ringKey e.dom (ringState Q.ring e.dom).now) n Q.D S' (by omega) (h.ledOk (by omega)) h.step.2 h.most h.room (by omega))
  have HBK:=Lib.hid (fun (w' : World) (K : List Res) (S' : Sp w0 [] w' K) => boxKeyS c.master e.dom (ringState Q.ring e.dom).now h.key hd S')
  have HKL:=Lib.hid (keyB_length c.master e.dom (ringState Q.ring e.dom).now)
  have HBX : Hid Q.B.ok:=h.box (by omega)
  have HNW : Hid ((ringState Q.ring e.dom).now ≤ 1000000):=hst.1
  have HD : Hid (¬ 255 < e.dom.length):=by unfold Hid; omega
  have HKL2 : Hid ((ringKey e.dom (ringState Q.ring e.dom).now).length ≤ 300):=by unfold Hid; omega
  have HF:=Lib.hid hf
  have HE:=Lib.hid E
  have HTT:=Lib.hid HT
  have HOK:=Lib.hid hok
  have HCM:=Lib.hid (lgOf_of hne.led (ringKey e.dom (ringState Q.ring e.dom).now))
  have HLC:=Lib.hid (fun (w' : World) (K : List Res) (S' : Sp w0 [] w' (ledR P.l P.d c.step c.most (ledNextN Q.D Q.led c.step c.most (ringKey e.dom (ringState Q.ring e.dom).now)).2.1 :: K)) => ledCounterS (ringKey e.dom (ringState Q.ring e.dom).now) S' (by unfold maxLen; omega))
  obtain ⟨va,vc,rfl⟩:=(HT w (boxR q (enCells e v) 40 :: slPs P c Q []) (by unfold slPs at S ⊢; exact S)).form
  clear hst hne hok hmo hkl h hn E HT hf hd
  generalize Q.sealed c e body = so at *
  generalize Q.entry c e = en at *
  generalize (ringState Q.ring e.dom) = st at *
  obtain ⟨nw,od⟩:=st
  dsimp only at *
  generalize ringKey e.dom nw = k1 at *
  generalize keyB c.master e.dom nw = k2 at *
  generalize ledNextN Q.D Q.led c.step c.most k1 = N at *
  obtain ⟨D1,M1,nonce,er⟩:=N
  dsimp only at *
  obtain ⟨xi,xd,xe,xc,xf,xr,xb,xn,xt⟩:=e
  dsimp only at *
  unfold enCells slPs at S
  dsimp only at S
  have HS:=Lib.hid S
  clear S
  go_enter Tryz.func69,Tryz.ntmps69
  go_upto_region 1 with (fail)
  refine wp_region_chainG [0,1,2,3,4,5,6,7,8,9,10,11,12,13] (fun c => c == 9 || c == 13) (fun c => c == 13) (T:=fun wx => (∀ o_1,wx.cell? ⟨q,o_1,none⟩ = (#[.int .u64 xi,.string ⟨xd.toArray⟩,.int .u64 xe,.int .u64 xc,.string ⟨xf.1.toArray⟩,.string ⟨xf.2.toArray⟩,.slice va xr.length vc,.int .u64 xb,.int .u64 xn,.int .i64 xt])[o_1]?) ∧ (∀ o_2,wx.cell? ⟨P.s,o_2,none⟩ = (#[.pointer (some ⟨P.d,0,none⟩),.pointer (some ⟨P.b,0,none⟩),.string ⟨c.master.toArray⟩,.pointer (some ⟨P.l,0,none⟩),.pointer (some ⟨P.r,0,none⟩),.map (some P.m),.int .u64 Q.last])[o_2]?)) (S:=fun wx => Sp w0 [] wx (boxR q #[.int .u64 xi,.string ⟨xd.toArray⟩,.int .u64 xe,.int .u64 xc,.string ⟨xf.1.toArray⟩,.string ⟨xf.2.toArray⟩,.slice va xr.length vc,.int .u64 xb,.int .u64 xn,.int .i64 xt] 40 :: boxR P.s (slCells P c.master Q.last) 90 :: mapNR 34 Row3.agg P.m Q.rows :: diskR P.d Q.D :: bxR P.b Q.B :: ledR P.l P.d c.step c.most Q.led :: ringR P.r P.d Q.ring :: L)) (by kernel_rfl) (by kernel_rfl) (by kernel_rfl) HS.out.drew (fun x h => ⟨h.cell,h.pull1.cell⟩) ?_
  repeat
    refine Exists.intro _ (And.intro rfl (Or.inl (Exists.intro ?_ (And.intro (fun wS hS K hK => ?_) (And.intro ?_ ?_)))))
    rotate_left 1
    · obtain ⟨t0,t1⟩:=hS
      first
        | (refine if_unwanted rfl ?_; simp only [Act.put,List.setIfInBounds_toArray,List.set_cons_zero,List.set_cons_succ]; exact hK.out)
        | (refine if_wanted rfl ?_; go_simp; exact hK.out)
    · rfl
  refine ChainG.one rfl rfl rfl (fun wS hS R hR => ?_)
  go_simp
  go_at_call 40
  refine (HRS.out _ _ _ _ _ _ _ _ hS).mono ?_
  rintro e w7 ⟨rfl,S7⟩
  refine hR.out _ _ rfl (fun wx => (∀ o_1,wx.cell? ⟨q,o_1,none⟩ = (#[.int .u64 xi,.string ⟨xd.toArray⟩,.int .u64 xe,.int .u64 xc,.string ⟨xf.1.toArray⟩,.string ⟨xf.2.toArray⟩,.slice va xr.length vc,.int .u64 xb,.int .u64 xn,.int .i64 xt])[o_1]?) ∧ (∀ o_2,wx.cell? ⟨P.s,o_2,none⟩ = (#[.pointer (some ⟨P.d,0,none⟩),.pointer (some ⟨P.b,0,none⟩),.string ⟨c.master.toArray⟩,.pointer (some ⟨P.l,0,none⟩),.pointer (some ⟨P.r,0,none⟩),.map (some P.m),.int .u64 Q.last])[o_2]?)) (fun wx => Sp w0 [] wx (boxR q #[.int .u64 xi,.string ⟨xd.toArray⟩,.int .u64 xe,.int .u64 xc,.string ⟨xf.1.toArray⟩,.string ⟨xf.2.toArray⟩,.slice va xr.length vc,.int .u64 xb,.int .u64 xn,.int .i64 xt] 40 :: boxR P.s (slCells P c.master Q.last) 90 :: mapNR 34 Row3.agg P.m Q.rows :: diskR P.d Q.D :: bxR P.b Q.B :: ledR P.l P.d c.step c.most Q.led :: ringR P.r P.d Q.ring :: L)) S7 (fun x h => ⟨h.cell,h.pull1.cell⟩) (fun _ h => h) ?_
  clear hR hS S7
  repeat
    refine Exists.intro _ (And.intro rfl (Or.inl (Exists.intro ?_ (And.intro (fun wS hS K hK => ?_) (And.intro ?_ ?_)))))
    rotate_left 1
    · obtain ⟨t0,t1⟩:=hS
      first
        | (refine if_unwanted rfl ?_; simp only [Act.put,List.setIfInBounds_toArray,List.set_cons_zero,List.set_cons_succ]; exact hK.out)
        | (refine if_wanted rfl ?_; go_simp; exact hK.out)
    · rfl
  refine ChainG.two rfl rfl rfl rfl (fun wS hS R hR => ?_)
  have c1:=hS.cell
  have f1:=hS.free
  have HP:=Lib.hid (hS.set (o:=2) (.int .u64 nw))
  go_simp
  refine hR.out _ _ rfl (fun wx => True) (fun wx => Sp w0 [] wx (boxR q #[.int .u64 xi,.string ⟨xd.toArray⟩,.int .u64 nw,.int .u64 xc,.string ⟨xf.1.toArray⟩,.string ⟨xf.2.toArray⟩,.slice va xr.length vc,.int .u64 xb,.int .u64 xn,.int .i64 xt] 40 :: boxR P.s (slCells P c.master Q.last) 90 :: mapNR 34 Row3.agg P.m Q.rows :: diskR P.d Q.D :: bxR P.b Q.B :: ledR P.l P.d c.step c.most Q.led :: ringR P.r P.d Q.ring :: L)) HP.out (fun _ _ => trivial)  ?_
  clear hR
  repeat
    refine Exists.intro _ (And.intro rfl (Or.inl (Exists.intro ?_ (And.intro (fun wS hS K hK => ?_) (And.intro ?_ ?_)))))
    rotate_left 1
    · have t0:=hS
      first
        | (refine if_unwanted rfl ?_; simp only [Act.put,List.setIfInBounds_toArray,List.set_cons_zero,List.set_cons_succ]; exact hK.out)
        | (refine if_wanted rfl ?_; go_simp; exact hK.out)
    · rfl
  intro wE hE
  have HSE:=Lib.hid hE
  clear hE
  clear HS HRS
  have HS:=Lib.hid HSE.out
  clear HSE
  go_upto_region 2 with (fail)
  refine wp_region_chainG [0,1,2,3,4,5,6,7,8,9] (fun c => c == 8) (fun c => false) (T:=fun wx => (∀ o_1,wx.cell? ⟨q,o_1,none⟩ = (#[.int .u64 xi,.string ⟨xd.toArray⟩,.int .u64 nw,.int .u64 xc,.string ⟨xf.1.toArray⟩,.string ⟨xf.2.toArray⟩,.slice va xr.length vc,.int .u64 xb,.int .u64 xn,.int .i64 xt])[o_1]?) ∧ (∀ o_2,wx.cell? ⟨P.s,o_2,none⟩ = (#[.pointer (some ⟨P.d,0,none⟩),.pointer (some ⟨P.b,0,none⟩),.string ⟨c.master.toArray⟩,.pointer (some ⟨P.l,0,none⟩),.pointer (some ⟨P.r,0,none⟩),.map (some P.m),.int .u64 Q.last])[o_2]?)) (S:=fun wx => Sp w0 [] wx (boxR q #[.int .u64 xi,.string ⟨xd.toArray⟩,.int .u64 nw,.int .u64 xc,.string ⟨xf.1.toArray⟩,.string ⟨xf.2.toArray⟩,.slice va xr.length vc,.int .u64 xb,.int .u64 xn,.int .i64 xt] 40 :: boxR P.s (slCells P c.master Q.last) 90 :: mapNR 34 Row3.agg P.m Q.rows :: diskR P.d Q.D :: bxR P.b Q.B :: ledR P.l P.d c.step c.most Q.led :: ringR P.r P.d Q.ring :: L)) (by kernel_rfl) (by kernel_rfl) (by kernel_rfl) HS.out.drew (fun x h => ⟨h.cell,h.pull1.cell⟩) ?_
  repeat
    refine Exists.intro _ (And.intro rfl (Or.inl (Exists.intro ?_ (And.intro (fun wS hS K hK => ?_) (And.intro ?_ ?_)))))
    rotate_left 1
    · obtain ⟨t0,t1⟩:=hS
      first
        | (refine if_unwanted rfl ?_; simp only [Act.put,List.setIfInBounds_toArray,List.set_cons_zero,List.set_cons_succ]; exact hK.out)
        | (refine if_wanted rfl ?_; go_simp; exact hK.out)
    · rfl
  refine ChainG.one rfl rfl rfl (fun wS hS R hR => ?_)
  go_simp
  go_at_call 104
  refine (HRK.out _ _ hS).mono ?_
  rintro e w7 ⟨rfl,S7⟩
  refine hR.out _ _ rfl (fun wx => (∀ o_1,wx.cell? ⟨q,o_1,none⟩ = (#[.int .u64 xi,.string ⟨xd.toArray⟩,.int .u64 nw,.int .u64 xc,.string ⟨xf.1.toArray⟩,.string ⟨xf.2.toArray⟩,.slice va xr.length vc,.int .u64 xb,.int .u64 xn,.int .i64 xt])[o_1]?) ∧ (∀ o_2,wx.cell? ⟨P.s,o_2,none⟩ = (#[.pointer (some ⟨P.d,0,none⟩),.pointer (some ⟨P.b,0,none⟩),.string ⟨c.master.toArray⟩,.pointer (some ⟨P.l,0,none⟩),.pointer (some ⟨P.r,0,none⟩),.map (some P.m),.int .u64 Q.last])[o_2]?)) (fun wx => Sp w0 [] wx (boxR q #[.int .u64 xi,.string ⟨xd.toArray⟩,.int .u64 nw,.int .u64 xc,.string ⟨xf.1.toArray⟩,.string ⟨xf.2.toArray⟩,.slice va xr.length vc,.int .u64 xb,.int .u64 xn,.int .i64 xt] 40 :: boxR P.s (slCells P c.master Q.last) 90 :: mapNR 34 Row3.agg P.m Q.rows :: diskR P.d Q.D :: bxR P.b Q.B :: ledR P.l P.d c.step c.most Q.led :: ringR P.r P.d Q.ring :: L)) S7 (fun x h => ⟨h.cell,h.pull1.cell⟩) (fun _ h => h) ?_
  clear hR hS S7
  repeat
    refine Exists.intro _ (And.intro rfl (Or.inl (Exists.intro ?_ (And.intro (fun wS hS K hK => ?_) (And.intro ?_ ?_)))))
    rotate_left 1
    · obtain ⟨t0,t1⟩:=hS
      first
        | (refine if_unwanted rfl ?_; simp only [Act.put,List.setIfInBounds_toArray,List.set_cons_zero,List.set_cons_succ]; exact hK.out)
        | (refine if_wanted rfl ?_; go_simp; exact hK.out)
    · rfl
  intro wE hE
  have HSE:=Lib.hid hE
  clear hE
  clear HS HRK
  have cs:=HSE.out.pull1.cell
  unfold slCells at cs
  go_wp2_with fail
  have HZ:=(Sp.pick [_,_,_,_,_,_,_] [5,3,0,1,2,4,6] (by decide) (HSE.out))
  refine (HLN.out _ _ HZ).mono ?_
  rintro r w2 ⟨rfl,S⟩
  have HS:=Lib.hid ((Sp.pick [_,_,_,_,_,_,_] [2,3,4,1,5,0,6] (by decide) (S)))
  clear S HZ HSE HLN cs
  by_cases he : er = 0
  rotate_left 1
  · have hb : (er != 0) = true:=by simpa using he
    have HV2 : Hid (so = ({ Q with D:=D1,led:=M1 },[],er)):=by unfold Hid; rw [HV.out,if_pos he]
    have HNZ:=Lib.hid he
    clear he HV HEN HOK
    go_wp2_with fail
    go_ret2
    rw [HV2.out]
    exact ⟨⟨xi,xd,nw,xc,xf,xr,xb,xn,xt⟩,fun h0 => absurd h0 HNZ.out,rfl,HS.out⟩
  subst he
  obtain ⟨hk1,hk2,hk3⟩:=HOK.out rfl
  have hcm:=HCM.out
  obtain ⟨k,hk⟩ : ∃ k,(lgOf M1 k1).c = k + 1:=⟨_,hk3⟩
  rw [hk] at HEN HLC hcm
  have hkb : (k : Int) + 1 < 1099511627777:=by omega
  have HKB : Hid (k < 18446744073709551616):=by unfold Hid; omega
  have hsub : (((k + 1 : Nat) : Int) - 1) % 18446744073709551616 = (k : Int):=by omega
  have HEN2 : Hid (en = ⟨xi,xd,nw,k,xf,xr,xb,xn,xt⟩):=by unfold Hid; rw [HEN.out]; rfl
  rw [if_neg (by simp),if_neg HD.out] at HV
  clear hk hk1 hk2 hk3 hcm HOK HCM HEN hkb HD
  have c0:=HS.out.cell
  have f0:=HS.out.free
  have cs:=HS.out.pull1.cell
  unfold slCells at cs
  have HS2:=Lib.hid (HS.out.set (o:=3) (.int .u64 k))
  simp only [List.setIfInBounds_toArray,List.set_cons_zero,List.set_cons_succ] at HS2
  go_wp2_with fail
  have HZ:=(Sp.pick [_,_,_,_,_,_,_] [5,0,1,2,3,4,6] (by decide) (HS.out))
  refine (HLC.out _ _ HZ).mono ?_
  rintro r w3 ⟨rfl,rfl⟩
  clear HZ
  go_upto_region 7 with (fail)
  clear HS c0 f0 cs hsub HLC
  generalize w2.setCell _ _ = w4 at *
  refine wp_region_chainG [0,1,2,3,4,5,6,7,8,9,10,11,12,13,14,15,16,17] (fun c => c == 12) (fun c => false) (T:=fun wx => (∀ o_1,wx.cell? ⟨q,o_1,none⟩ = (#[.int .u64 xi,.string ⟨xd.toArray⟩,.int .u64 nw,.int .u64 k,.string ⟨xf.1.toArray⟩,.string ⟨xf.2.toArray⟩,.slice va xr.length vc,.int .u64 xb,.int .u64 xn,.int .i64 xt])[o_1]?) ∧ (∀ o_2,wx.cell? ⟨P.s,o_2,none⟩ = (#[.pointer (some ⟨P.d,0,none⟩),.pointer (some ⟨P.b,0,none⟩),.string ⟨c.master.toArray⟩,.pointer (some ⟨P.l,0,none⟩),.pointer (some ⟨P.r,0,none⟩),.map (some P.m),.int .u64 Q.last])[o_2]?)) (S:=fun wx => Sp w0 [] wx (boxR q #[.int .u64 xi,.string ⟨xd.toArray⟩,.int .u64 nw,.int .u64 k,.string ⟨xf.1.toArray⟩,.string ⟨xf.2.toArray⟩,.slice va xr.length vc,.int .u64 xb,.int .u64 xn,.int .i64 xt] 40 :: boxR P.s (slCells P c.master Q.last) 90 :: mapNR 34 Row3.agg P.m Q.rows :: diskR P.d D1 :: bxR P.b Q.B :: ledR P.l P.d c.step c.most M1 :: ringR P.r P.d Q.ring :: L)) (by kernel_rfl) (by kernel_rfl) (by kernel_rfl) HS2.out.drew (fun x h => ⟨h.cell,h.pull1.cell⟩) ?_
  repeat
    refine Exists.intro _ (And.intro rfl (Or.inl (Exists.intro ?_ (And.intro (fun wS hS K hK => ?_) (And.intro ?_ ?_)))))
    rotate_left 1
    · obtain ⟨t0,t1⟩:=hS
      first
        | (refine if_unwanted rfl ?_; simp only [Act.put,List.setIfInBounds_toArray,List.set_cons_zero,List.set_cons_succ]; exact hK.out)
        | (refine if_wanted rfl ?_; go_simp; exact hK.out)
    · rfl
  refine ChainG.one rfl rfl rfl (fun wS hS R hR => ?_)
  go_simp
  go_at_call 75
  refine (HBK.out _ _ hS).mono ?_
  rintro e w7 ⟨rfl,S7⟩
  refine hR.out _ _ rfl (fun wx => (∀ o_1,wx.cell? ⟨q,o_1,none⟩ = (#[.int .u64 xi,.string ⟨xd.toArray⟩,.int .u64 nw,.int .u64 k,.string ⟨xf.1.toArray⟩,.string ⟨xf.2.toArray⟩,.slice va xr.length vc,.int .u64 xb,.int .u64 xn,.int .i64 xt])[o_1]?) ∧ (∀ o_2,wx.cell? ⟨P.s,o_2,none⟩ = (#[.pointer (some ⟨P.d,0,none⟩),.pointer (some ⟨P.b,0,none⟩),.string ⟨c.master.toArray⟩,.pointer (some ⟨P.l,0,none⟩),.pointer (some ⟨P.r,0,none⟩),.map (some P.m),.int .u64 Q.last])[o_2]?)) (fun wx => Sp w0 [] wx (boxR q #[.int .u64 xi,.string ⟨xd.toArray⟩,.int .u64 nw,.int .u64 k,.string ⟨xf.1.toArray⟩,.string ⟨xf.2.toArray⟩,.slice va xr.length vc,.int .u64 xb,.int .u64 xn,.int .i64 xt] 40 :: boxR P.s (slCells P c.master Q.last) 90 :: mapNR 34 Row3.agg P.m Q.rows :: diskR P.d D1 :: bxR P.b Q.B :: ledR P.l P.d c.step c.most M1 :: ringR P.r P.d Q.ring :: L)) S7 (fun x h => ⟨h.cell,h.pull1.cell⟩) (fun _ h => h) ?_
  clear hR hS S7
  repeat
    refine Exists.intro _ (And.intro rfl (Or.inl (Exists.intro ?_ (And.intro (fun wS hS K hK => ?_) (And.intro ?_ ?_)))))
    rotate_left 1
    · obtain ⟨t0,t1⟩:=hS
      first
        | (refine if_unwanted rfl ?_; simp only [Act.put,List.setIfInBounds_toArray,List.set_cons_zero,List.set_cons_succ]; exact hK.out)
        | (refine if_wanted rfl ?_; go_simp; exact hK.out)
    · rfl
  intro wE hE
  have HSE:=Lib.hid hE
  clear hE
  clear HS2 HBK
  have HS:=Lib.hid HSE.out
  clear HSE
  rw [HEN2.out] at HV
  have HSL : Hid (∀ (w' : World),Sp w0 [] w' (boxR q #[.int .u64 xi,.string ⟨xd.toArray⟩,.int .u64 nw,.int .u64 k,.string ⟨xf.1.toArray⟩,.string ⟨xf.2.toArray⟩,.slice va xr.length vc,.int .u64 xb,.int .u64 xn,.int .i64 xt] 40 :: boxR P.s (slCells P c.master Q.last) 90 :: mapNR 34 Row3.agg P.m Q.rows :: diskR P.d D1 :: bxR P.b Q.B :: ledR P.l P.d c.step c.most M1 :: ringR P.r P.d Q.ring :: L) → Calls Tryz.prog 107 #[.pointer (some ⟨P.b,0,none⟩),.string ⟨k2.toArray⟩,.agg #[.int .u64 xi,.string ⟨xd.toArray⟩,.int .u64 nw,.int .u64 k,.string ⟨xf.1.toArray⟩,.string ⟨xf.2.toArray⟩,.slice va xr.length vc,.int .u64 xb,.int .u64 xn,.int .i64 xt],.string ⟨body.toArray⟩] w' fun r w2 => r = .returned (.tuple #[.string ⟨(slSeal Q.B k2 ⟨xi,xd,nw,k,xf,xr,xb,xn,xt⟩ body).1.1.toArray⟩,.int .i64 (slSeal Q.B k2 ⟨xi,xd,nw,k,xf,xr,xb,xn,xt⟩ body).1.2]) ∧ Sp w0 [] w2 (boxR q #[.int .u64 xi,.string ⟨xd.toArray⟩,.int .u64 nw,.int .u64 k,.string ⟨xf.1.toArray⟩,.string ⟨xf.2.toArray⟩,.slice va xr.length vc,.int .u64 xb,.int .u64 xn,.int .i64 xt] 40 :: boxR P.s (slCells P c.master Q.last) 90 :: mapNR 34 Row3.agg P.m Q.rows :: diskR P.d D1 :: bxR P.b (slSeal Q.B k2 ⟨xi,xd,nw,k,xf,xr,xb,xn,xt⟩ body).2 :: ledR P.l P.d c.step c.most M1 :: ringR P.r P.d Q.ring :: L)):=fun w' S' =>
    (slSealS Q.B ⟨xi,xd,nw,k,xf,xr,xb,xn,xt⟩ k2 body HE.out { HF.out with ep:=by have:=HNW.out; dsimp only; omega,cnt:=HKB.out } HKL.out HBX.out (HTT.out w' [_,_,_,_,_,_,_] S') ((Sp.pick [_,_,_,_,_,_,_] [4,0,1,2,3,5,6] (by decide) (S')))).mono (fun r w2 h => ⟨h.1,(Sp.pick [_,_,_,_,_,_,_] [1,2,3,4,0,5,6] (by decide) (h.2))⟩)
  have HVX : Hid (so = ({ Q with D:=D1,led:=M1,B:=(slSeal Q.B k2 ⟨xi,xd,nw,k,xf,xr,xb,xn,xt⟩ body).2 },(slSeal Q.B k2 ⟨xi,xd,nw,k,xf,xr,xb,xn,xt⟩ body).1.1,(slSeal Q.B k2 ⟨xi,xd,nw,k,xf,xr,xb,xn,xt⟩ body).1.2)):=HV.out
  clear HV
  generalize slSeal Q.B k2 ⟨xi,xd,nw,k,xf,xr,xb,xn,xt⟩ body = sl at *
  obtain ⟨⟨tx,er⟩,B2⟩:=sl
  dsimp only at *
  go_upto_region 10 with (fail)
  refine wp_region_chainG [0,1,2,3,4,5,6,7,8,9,10,11,12,13] (fun c => c == 9) (fun c => false) (T:=fun wx => (∀ o_1,wx.cell? ⟨q,o_1,none⟩ = (#[.int .u64 xi,.string ⟨xd.toArray⟩,.int .u64 nw,.int .u64 k,.string ⟨xf.1.toArray⟩,.string ⟨xf.2.toArray⟩,.slice va xr.length vc,.int .u64 xb,.int .u64 xn,.int .i64 xt])[o_1]?) ∧ (∀ o_2,wx.cell? ⟨P.s,o_2,none⟩ = (#[.pointer (some ⟨P.d,0,none⟩),.pointer (some ⟨P.b,0,none⟩),.string ⟨c.master.toArray⟩,.pointer (some ⟨P.l,0,none⟩),.pointer (some ⟨P.r,0,none⟩),.map (some P.m),.int .u64 Q.last])[o_2]?)) (S:=fun wx => Sp w0 [] wx (boxR q #[.int .u64 xi,.string ⟨xd.toArray⟩,.int .u64 nw,.int .u64 k,.string ⟨xf.1.toArray⟩,.string ⟨xf.2.toArray⟩,.slice va xr.length vc,.int .u64 xb,.int .u64 xn,.int .i64 xt] 40 :: boxR P.s (slCells P c.master Q.last) 90 :: mapNR 34 Row3.agg P.m Q.rows :: diskR P.d D1 :: bxR P.b Q.B :: ledR P.l P.d c.step c.most M1 :: ringR P.r P.d Q.ring :: L)) (by kernel_rfl) (by kernel_rfl) (by kernel_rfl) HS.out.drew (fun x h => ⟨h.cell,h.pull1.cell⟩) ?_
  repeat
    refine Exists.intro _ (And.intro rfl (Or.inl (Exists.intro ?_ (And.intro (fun wS hS K hK => ?_) (And.intro ?_ ?_)))))
    rotate_left 1
    · obtain ⟨t0,t1⟩:=hS
      first
        | (refine if_unwanted rfl ?_; simp only [Act.put,List.setIfInBounds_toArray,List.set_cons_zero,List.set_cons_succ]; exact hK.out)
        | (refine if_wanted rfl ?_; go_simp; exact hK.out)
    · rfl
  refine ChainG.one rfl rfl rfl (fun wS hS R hR => ?_)
  go_simp
  go_at_call 107
  refine (HSL.out _ hS).mono ?_
  rintro e w7 ⟨rfl,S7⟩
  refine hR.out _ _ rfl (fun wx => (∀ o_1,wx.cell? ⟨q,o_1,none⟩ = (#[.int .u64 xi,.string ⟨xd.toArray⟩,.int .u64 nw,.int .u64 k,.string ⟨xf.1.toArray⟩,.string ⟨xf.2.toArray⟩,.slice va xr.length vc,.int .u64 xb,.int .u64 xn,.int .i64 xt])[o_1]?) ∧ (∀ o_2,wx.cell? ⟨P.s,o_2,none⟩ = (#[.pointer (some ⟨P.d,0,none⟩),.pointer (some ⟨P.b,0,none⟩),.string ⟨c.master.toArray⟩,.pointer (some ⟨P.l,0,none⟩),.pointer (some ⟨P.r,0,none⟩),.map (some P.m),.int .u64 Q.last])[o_2]?)) (fun wx => Sp w0 [] wx (boxR q #[.int .u64 xi,.string ⟨xd.toArray⟩,.int .u64 nw,.int .u64 k,.string ⟨xf.1.toArray⟩,.string ⟨xf.2.toArray⟩,.slice va xr.length vc,.int .u64 xb,.int .u64 xn,.int .i64 xt] 40 :: boxR P.s (slCells P c.master Q.last) 90 :: mapNR 34 Row3.agg P.m Q.rows :: diskR P.d D1 :: bxR P.b B2 :: ledR P.l P.d c.step c.most M1 :: ringR P.r P.d Q.ring :: L)) S7 (fun x h => ⟨h.cell,h.pull1.cell⟩) (fun _ h => h) ?_
  clear hR hS S7
  repeat
    refine Exists.intro _ (And.intro rfl (Or.inl (Exists.intro ?_ (And.intro (fun wS hS K hK => ?_) (And.intro ?_ ?_)))))
    rotate_left 1
    · obtain ⟨t0,t1⟩:=hS
      first
        | (refine if_unwanted rfl ?_; simp only [Act.put,List.setIfInBounds_toArray,List.set_cons_zero,List.set_cons_succ]; exact hK.out)
        | (refine if_wanted rfl ?_; go_simp; exact hK.out)
    · rfl
  intro wE hE
  have HSE:=Lib.hid hE
  clear hE
  go_wp2_with fail
  go_ret2
  rw [HVX.out]
  exact ⟨⟨xi,xd,nw,k,xf,xr,xb,xn,xt⟩,fun _ => HEN2.out.symm,rfl,HSE.out⟩
end
end
end Go.Proofs.YtangbdahnmomlaaGreatDoor
