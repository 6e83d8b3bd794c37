/- spool, plainly: what each act does to the files, whatever dies. No program. spool, plainly: what writing a message leaves, whatever dies. No program. spool: Open. Conditions: the lengths fit; what Go's variables hold. -/
import Derived.Test.YtangbdahnmomlaaGreatDoorBu31
import Derived.Test.YtangbdahnmomlaaGreatDoorBu39
import Derived.Test.YtangbdahnmomlaaGreatDoorBu40
set_option linter.unnecessarySimpa false
set_option linter.unusedSimpArgs false
set_option linter.unusedVariables false
set_option maxHeartbeats 4000000
set_option maxRecDepth 100000
namespace Go.Proofs.YtangbdahnmomlaaGreatDoor
section
open Go.RowKit Go.Maps
theorem done_cases (D : Dk) (e : Ev) : (D.done e = ({ D with dead:=true },13) ∧ (D.dead = true ∨ D.fuse = 0)) ∨
    ((D.done e).2 = 0 ∧ D.dead = false ∧ (D.done e).1.dead = false ∧ (D.done e).1.now = (if e.op = 5 then D.now else D.now.did e) ∧ (D.fuse < 0 → (D.done e).1.fuse < 0) ∧ (D.done e).1.quota = D.quota ∧ (e.op = 5 → (D.done e).1.sure = D.now ∧ (D.done e).1.pend = [])):=by
  by_cases h : (D.dead || D.fuse == 0) = true
  · left
    unfold Dk.done
    rw [if_pos h]
    exact ⟨rfl,by simpa using h⟩
  · right
    have hd : D.dead = false:=by cases hh : D.dead <;> simp [hh] at h ⊢
    have hf : ∀ x : Int,D.fuse < 0 → (if 0 < D.fuse then D.fuse - 1 else D.fuse) < 0:=fun _ hx => by split <;> omega
    unfold Dk.done
    rw [if_neg h]
    by_cases h5 : e.op = 5
    · rw [if_pos h5,if_pos h5]
      exact ⟨rfl,hd,hd,rfl,hf 0,rfl,fun _ => ⟨rfl,rfl⟩⟩
    · rw [if_neg h5,if_neg h5]
      exact ⟨rfl,hd,hd,rfl,hf 0,rfl,fun h => absurd h h5⟩
theorem Hist.killed {P : Fs → Prop} {D : Dk} (h : Hist P D) : Hist P { D with dead:=true }:=⟨h.all,h.now⟩
theorem Hist.sync {P : Fs → Prop} {D : Dk} (h1 : D.sure = D.now) (h2 : D.pend = []) (hP : P D.now) : Hist P D:=by
  refine ⟨fun k => ?_,?_⟩
  · unfold Dk.replay
    rw [h1,h2]
    simpa using hP
  · unfold Dk.replay
    rw [h1,h2]
    rfl
inductive Did (D : Dk) (F : Fs) : Dk × Int → Prop
  | no (c : Int) : c ≠ 0 → c ≠ 13 → Did D F (D,c)
  | dead (D2 : Dk) : D2.dead = true → (D.dead = true ∨ D.fuse = 0 ∨ 0 < D.fuse) → (∀ P : Fs → Prop,Hist P D → (D.dead = false → P F) → Hist P D2) → D2.quota = D.quota → (D.dead = true → D2 = D) → Did D F (D2,13)
  | did (D2 : Dk) : D.dead = false → D2.dead = false → D2.now = F → (D.fuse < 0 → D2.fuse < 0) → D2.quota = D.quota → (∀ P : Fs → Prop,Hist P D → P F → Hist P D2) → Did D F (D2,0)
theorem dead_same {D : Dk} (h : D.dead = true) : ({ D with dead:=true } : Dk) = D:=by cases D; simp_all
theorem done_did (D : Dk) (e : Ev) (h5 : e.op ≠ 5) : Did D (D.now.did e) (D.done e):=by
  rcases done_cases D e with ⟨h1,h2⟩ | ⟨h1,h2,h3,h4,h6,h7,_⟩
  · rw [h1]
    exact .dead _ rfl (h2.imp id .inl) (fun P hP _ => hP.killed) rfl (fun hd => dead_same hd)
  · rw [if_neg h5] at h4
    obtain ⟨D2,c⟩ : ∃ D2 c,D.done e = (D2,c):=⟨_,_,rfl⟩
    have e2 : D.done e = ((D.done e).1,0):=by rw [← h1]
    rw [e2]
    exact .did _ h2 h3 h4 h6 h7 (fun P hP hF => hP.done e (fun _ => hF))
theorem sync_did (D : Dk) : Did D D.now D.sync:=by
  rcases done_cases D ⟨5,[],[],[]⟩ with ⟨h1,h2⟩ | ⟨h1,h2,h3,h4,h6,h7,h8⟩
  · unfold Dk.sync
    rw [h1]
    exact .dead _ rfl (h2.imp id .inl) (fun P hP _ => hP.killed) rfl (fun hd => dead_same hd)
  · have e2 : D.sync = ((D.done ⟨5,[],[],[]⟩).1,0):=by unfold Dk.sync; rw [← h1]
    rw [e2]
    rw [if_pos rfl] at h4
    exact .did _ h2 h3 h4 h6 h7 (fun P _ hF => Hist.sync (by rw [(h8 rfl).1,h4]) (h8 rfl).2 (by rw [h4]; exact hF))
theorem write_did (D : Dk) (n d : Bs) : Did D (D.now.put n d) (D.write n d):=by
  unfold Dk.write
  split
  · split
    · exact .no 4 (by decide) (by decide)
    · split
      · exact .no 12 (by decide) (by decide)
      · exact done_did D ⟨1,n,[],d⟩ (show (1 : Int) ≠ 5 by decide)
  · exact .no 1 (by decide) (by decide)
theorem append_did (D : Dk) (n d : Bs) : Did D (D.now.put n ((D.now.get n).getD [] ++ d)) (D.append n d):=by
  unfold Dk.append
  split
  · split
    · exact .no 12 (by decide) (by decide)
    · exact done_did D ⟨2,n,[],d⟩ (show (2 : Int) ≠ 5 by decide)
  · exact .no 10 (by decide) (by decide)
theorem remove_did (D : Dk) (n : Bs) : Did D (D.now.del n) (D.remove n):=by
  unfold Dk.remove
  split
  · exact done_did D ⟨4,n,[],[]⟩ (show (4 : Int) ≠ 5 by decide)
  · exact .no 10 (by decide) (by decide)
theorem Did.andSync {D : Dk} {F : Fs} {R : Dk × Int} (h : Did D F R) : Did D F (if R.2 ≠ 0 then R else R.1.sync):=by
  cases h with
  | no c h1 h2 => rw [if_pos h1]; exact .no c h1 h2
  | dead D2 h1 h2 h3 h4 h5 => rw [if_pos (show (13 : Int) ≠ 0 by decide)]; exact .dead D2 h1 h2 h3 h4 h5
  | did D2 h1 h2 h3 h4 h5 h6 =>
    rw [if_neg (by simp)]
    dsimp only
    have hs:=sync_did D2
    generalize hS : D2.sync = S at hs
    cases hs with
    | no c g1 g2 =>
      exfalso
      rcases done_cases D2 ⟨5,[],[],[]⟩ with ⟨k1,_⟩ | ⟨k1,_⟩
      · have : D2.sync.2 = 13:=by unfold Dk.sync; rw [k1]
        rw [hS] at this
        exact g2 this
      · have : D2.sync.2 = 0:=k1
        rw [hS] at this
        exact g1 this
    | dead D3 g1 g2 g3 g4 g5 =>
      refine .dead D3 g1 ?_ (fun P hP hF => g3 P (h6 P hP (hF h1)) (fun _ => by rw [h3]; exact hF h1)) (g4.trans h5) (fun hd => by rw [h1] at hd; cases hd)
      rcases g2 with g | g | g
      · rw [h2] at g; cases g
      · by_cases hf : D.fuse < 0
        · have:=h4 hf; omega
        · by_cases hz : D.fuse = 0
          · exact .inr (.inl hz)
          · exact .inr (.inr (by omega))
      · by_cases hf : D.fuse < 0
        · have:=h4 hf; omega
        · by_cases hz : D.fuse = 0
          · exact .inr (.inl hz)
          · exact .inr (.inr (by omega))
    | did D3 g1 g2 g3 g4 g5 g6 => exact .did D3 h1 g2 (g3.trans h3) (fun hf => g4 (h4 hf)) (g5.trans h5) (fun P hP hF => g6 P (h6 P hP hF) (by rw [h3]; exact hF))
theorem addSync_did (D : Dk) (n d : Bs) : Did D (D.now.put n ((D.now.get n).getD [] ++ d)) (addSync D n d):=(append_did D n d).andSync
theorem Did.alive {D : Dk} {F : Fs} {R : Dk × Int} (h : Did D F R) (hd : D.dead = false) (hc : D.fuse < 0) : (R.1 = D ∧ R.2 ≠ 0 ∧ R.2 ≠ 13) ∨ (R.2 = 0 ∧ R.1.dead = false ∧ R.1.now = F ∧ R.1.fuse < 0 ∧ R.1.quota = D.quota):=by
  cases h with
  | no c h1 h2 => exact .inl ⟨rfl,h1,h2⟩
  | dead D2 h1 h2 h3 h4 h5 =>
    exfalso
    rcases h2 with g | g | g
    · rw [hd] at g; cases g
    · omega
    · omega
  | did D2 h1 h2 h3 h4 h5 h6 => exact .inr ⟨rfl,h2,h3,h4 hc,h5⟩
theorem lay_sync (Q : Sq) (id : Nat) (r : Row3) : Q.lay id r = if (addSync Q.D indexB (slRow id r)).2 ≠ 0 then ({ Q with D:=(addSync Q.D indexB (slRow id r)).1 },(addSync Q.D indexB (slRow id r)).2) else (({ Q with D:=(addSync Q.D indexB (slRow id r)).1 } : Sq).know id r,0):=by
  unfold Sq.lay addSync
  by_cases h : (Q.D.append indexB (slRow id r)).2 ≠ 0
  · rw [if_pos h,if_pos h,if_pos h]
  · rw [if_neg h,if_neg h]
theorem ringSet_sync (D : Dk) (M : Mp RSt) (x : Bs) (s : RSt) : ringSet D M x s = if s = ringState M x then (D,M,0) else if (addSync D ringB (ringRow x s)).2 ≠ 0 then ((addSync D ringB (ringRow x s)).1,M,(addSync D ringB (ringRow x s)).2) else ((addSync D ringB (ringRow x s)).1,M.put x s,0):=by
  unfold ringSet addSync
  split
  · rfl
  · by_cases h : (D.append ringB (ringRow x s)).2 ≠ 0
    · rw [if_pos h,if_pos h,if_pos h]
    · rw [if_neg h,if_neg h]
theorem reserve_sync (D : Dk) (x : Bs) (n : Nat) : ledReserve D x n = addSync D ledB (LRow.text ⟨x,n⟩):=rfl
end
section
open Go.RowKit Go.Maps
theorem dec_dot (n : Nat) : ∀ c ∈ Lib.decDigits n,c ≠ 46:=by
  induction n using Nat.strongRecOn with
  | _ n ih =>
    have hd : ∀ k,k < 10 → UInt8.ofNat (48 + k) ≠ 46:=by decide
    rw [Lib.decDigits]
    split
    · rename_i h
      intro c hc
      rw [List.mem_singleton] at hc
      subst hc
      exact hd n h
    · intro c hc
      rcases List.mem_append.1 hc with hc | hc
      · exact ih (n / 10) (by omega) c hc
      · rw [List.mem_singleton] at hc
        subst hc
        exact hd _ (by omega)
def numV3 (s : Bs) : Nat:=s.foldl (fun a c => a * 10 + (c.toNat - 48)) 0
theorem numV3_dec (n : Nat) : numV3 (Lib.decDigits n) = n:=by
  induction n using Nat.strongRecOn with
  | _ n ih =>
    rw [Lib.decDigits]
    split
    · rename_i h
      have : (UInt8.ofNat (48 + n)).toNat = 48 + n:=by simp; omega
      show 0 * 10 + ((UInt8.ofNat (48 + n)).toNat - 48) = n
      rw [this]; omega
    · have hs : ∀ (s : Bs) (c : UInt8),numV3 (s ++ [c]) = numV3 s * 10 + (c.toNat - 48):=fun s c => by simp [numV3]
      rw [hs,ih (n / 10) (by omega)]
      have : (UInt8.ofNat (48 + n % 10)).toNat = 48 + n % 10:=by simp; omega
      rw [this]; omega
theorem dec_inj3 {a b : Nat} (h : Lib.decDigits a = Lib.decDigits b) : a = b:=by rw [← numV3_dec a,h,numV3_dec]
theorem dot_split {a b x y : Bs} (ha : ∀ c ∈ a,c ≠ 46) (hb : ∀ c ∈ b,c ≠ 46) (h : a ++ 46 :: x = b ++ 46 :: y) : a = b ∧ x = y:=by
  induction a generalizing b with
  | nil =>
    cases b with
    | nil => simpa using h
    | cons c r =>
      simp only [List.nil_append,List.cons_append,List.cons.injEq] at h
      exact absurd h.1.symm (hb c (by simp))
  | cons d a ih =>
    cases b with
    | nil =>
      simp only [List.nil_append,List.cons_append,List.cons.injEq] at h
      exact absurd h.1 (ha d (by simp))
    | cons c r =>
      simp only [List.cons_append,List.cons.injEq] at h
      obtain ⟨h1,h2⟩:=ih (fun c hc => ha c (by simp [hc])) (fun c hc => hb c (by simp [hc])) h.2
      rw [h.1,h1]
      exact ⟨rfl,h2⟩
theorem fileB_inj {i n o j p q : Nat} (h : fileB i n o = fileB j p q) : i = j ∧ n = p ∧ o = q:=by
  unfold fileB at h
  simp only [List.append_assoc,List.cons_append,List.nil_append,List.cons.injEq,true_and] at h
  obtain ⟨h1,h2⟩:=dot_split (dec_dot _) (dec_dot _) h
  obtain ⟨h3,h4⟩:=dot_split (dec_dot _) (dec_dot _) h2
  exact ⟨dec_inj3 h1,dec_inj3 h3,dec_inj3 h4⟩
structure Good (P : Bx → Fs → Prop) (m : Bs) (Q : Sq) (lf : List LRow) : Prop where
  holds : Holds m Q.B Q.D.now Q.rows Q.last Q.ring lf
  live : Q.D.dead = false
  hist : Hist (P Q.B) Q.D
  mem : ∀ k,(lgOf Q.led k).c ≤ (lgOf Q.led k).ceil ∧ (lgOf Q.led k).ceil = (lgOf (ledPuts lf) k).ceil
  used : ∀ id r,Q.rows.get id = some r → r.cnt < (lgOf Q.led (ringKey r.dom r.ep)).c
def SameFiles (rows : Mn Row3) (F F0 : Fs) : Prop:=∀ id r,rows.get id = some r → F.get (fileB id r.ep r.cnt) = F0.get (fileB id r.ep r.cnt)
def Old (P : Bx → Fs → Prop) (m : Bs) (Q : Sq) : Prop:=∀ B F lf,Q.B.le B → Holds m B F Q.rows Q.last Q.ring lf → SameFiles Q.rows F Q.D.now → P B F
def Mono (P : Bx → Fs → Prop) : Prop:=∀ B B2 F,B.le B2 → P B F → P B2 F
theorem Hist.mono {P P2 : Fs → Prop} {D : Dk} (h : Hist P D) (hp : ∀ F,P F → P2 F) : Hist P2 D:=⟨fun k => hp _ (h.all k),h.now⟩
theorem Did.good {D : Dk} {F : Fs} {R : Dk × Int} (h : Did D F R) {P P2 : Fs → Prop} (hH : Hist P D) (hPP : ∀ F,P F → P2 F) (hF : P2 F) : (R.1 = D ∧ R.2 ≠ 0 ∧ R.2 ≠ 13) ∨ (R.2 = 13 ∧ R.1.dead = true ∧ Hist P2 R.1) ∨ (R.2 = 0 ∧ R.1.dead = false ∧ R.1.now = F ∧ Hist P2 R.1):=by
  cases h with
  | no c h1 h2 => exact .inl ⟨rfl,h1,h2⟩
  | dead D2 h1 h2 h3 h4 h5 => exact .inr (.inl ⟨rfl,h1,h3 _ (hH.mono hPP) (fun _ => hF)⟩)
  | did D2 h1 h2 h3 h4 h5 h6 => exact .inr (.inr ⟨rfl,h2,h3,h6 _ (hH.mono hPP) hF⟩)
theorem next_did {D : Dk} {M : Mp Cnt} {step most : Nat} {x : Bs} (hs : 1 ≤ step) (hm : most ≤ 1099511627776) (hc : (lgOf M x).c ≤ (lgOf M x).ceil) :
    ((ledNextN D M step most x).1 = D ∧ (ledNextN D M step most x).2.1 = M ∧ (ledNextN D M step most x).2.2.2 ≠ 0) ∨
    ((ledNextN D M step most x).1 = D ∧ (ledNextN D M step most x).2.1 = M.put x ⟨(lgOf M x).c + 1,(lgOf M x).ceil⟩ ∧ (lgOf M x).c < (lgOf M x).ceil) ∨
    (∃ ceil,lrowOk ⟨x,ceil⟩ ∧ (lgOf M x).c = (lgOf M x).ceil ∧ (lgOf M x).ceil < ceil ∧ (ledNextN D M step most x).1 = (addSync D ledB (LRow.text ⟨x,ceil⟩)).1 ∧
      ((addSync D ledB (LRow.text ⟨x,ceil⟩)).2 ≠ 0 → (ledNextN D M step most x).2.2.2 = (addSync D ledB (LRow.text ⟨x,ceil⟩)).2 ∧ (ledNextN D M step most x).2.1 = M) ∧
      ((addSync D ledB (LRow.text ⟨x,ceil⟩)).2 = 0 → (ledNextN D M step most x).2.1 = M.put x ⟨(lgOf M x).c + 1,ceil⟩)):=by
  unfold ledNextN
  split
  · exact .inl ⟨rfl,rfl,show (5 : Int) ≠ 0 by decide⟩
  · rename_i hx
    split
    · exact .inl ⟨rfl,rfl,show (21 : Int) ≠ 0 by decide⟩
    · rename_i hsp
      split
      · rename_i heq
        refine .inr (.inr ⟨min ((lgOf M x).ceil + step) most,⟨by dsimp only; omega,by dsimp only; omega⟩,heq,by omega,?_⟩)
        rw [← reserve_sync]
        split
        · rename_i h1
          exact ⟨rfl,fun _ => ⟨rfl,rfl⟩,fun h => absurd h h1⟩
        · rename_i h1
          exact ⟨rfl,fun h => absurd h h1,fun _ => rfl⟩
      · rename_i hne
        exact .inr (.inl ⟨rfl,rfl,by omega⟩)
section
variable {P P0 : Bx → Fs → Prop} {m : Bs} {Q : Sq} {c : Sc} {n : Nat} {lf : List LRow}
theorem SameFiles.refl (rows : Mn Row3) (F : Fs) : SameFiles rows F F:=fun _ _ _ => rfl
theorem next_good (h : Good P m Q lf) (hst : 1 ≤ c.step) (hmost : c.most ≤ 1099511627776) (hold : Old P m Q) (d : Bs) :
    ((Q.next c d).1.dead = true ∧ (Q.next c d).2.2.2 = 13 ∧ Hist (P Q.B) (Q.next c d).1) ∨
    (∃ lf2,Good P m { Q with D:=(Q.next c d).1,led:=(Q.next c d).2.1 } lf2 ∧ (∀ k,k ≠ ledB → (Q.next c d).1.now.get k = Q.D.now.get k) ∧ ((Q.next c d).2.2.2 = 0 → (lgOf (Q.next c d).2.1 (ringKey d (Q.epoch d))).c = (lgOf Q.led (ringKey d (Q.epoch d))).c + 1)):=by
  have hlast : (Q.next c d).2.2.2 = 0 → (lgOf (Q.next c d).2.1 (ringKey d (Q.epoch d))).c = (lgOf Q.led (ringKey d (Q.epoch d))).c + 1:=fun hz => (ledNext_ok hz).2.2
  have hput : ∀ (v : Cnt),(lgOf Q.led (ringKey d (Q.epoch d))).c < v.c → ∀ id r,Q.rows.get id = some r → r.cnt < (lgOf (Q.led.put (ringKey d (Q.epoch d)) v) (ringKey r.dom r.ep)).c:=by
    intro v hv id r hr
    have:=h.used id r hr
    rw [lgOf_put]
    split
    · rename_i e
      rw [e] at hv
      omega
    · exact this
  unfold Sq.next at hlast ⊢
  generalize ringKey d (Q.epoch d) = x at *
  rcases next_did (D:=Q.D) (M:=Q.led) (x:=x) hst hmost (h.mem x).1 with ⟨h1,h2,_⟩ | ⟨h1,h2,h3⟩ | ⟨ceil,hx,hceq,hlt,h1,h2,h3⟩
  · right
    rw [h2] at hlast
    rw [h1,h2]
    exact ⟨lf,⟨h.holds,h.live,h.hist,h.mem,h.used⟩,fun _ _ => rfl,hlast⟩
  · right
    rw [h2] at hlast
    rw [h1,h2]
    refine ⟨lf,⟨h.holds,h.live,h.hist,fun k => ?_,hput _ (by dsimp only; omega)⟩,fun _ _ => rfl,hlast⟩
    rw [lgOf_put]
    have:=h.mem k
    split
    · rename_i e
      subst e
      exact ⟨by dsimp only; omega,this.2⟩
    · exact this
  · have hle : (lgOf (ledPuts lf) x).ceil ≤ ceil:=by have:=(h.mem x).2; omega
    have hF:=h.holds.ledger hx hle
    have hg : ∀ k,k ≠ ledB → (Q.D.now.put ledB ((Q.D.now.get ledB).getD [] ++ LRow.text ⟨x,ceil⟩)).get k = Q.D.now.get k:=fun k hk => by rw [fs_get_put,if_neg (Ne.symm hk)]
    have hP:=hold Q.B _ _ (Bx.le.refl _) hF (fun id r _ => hg _ (file_led _ _ _))
    rcases (addSync_did Q.D ledB (LRow.text ⟨x,ceil⟩)).good h.hist (fun _ h => h) hP with ⟨g1,g2,g3⟩ | ⟨g1,g2,g3⟩ | ⟨g1,g2,g3,g4⟩
    · right
      obtain ⟨h4,h5⟩:=h2 g2
      rw [h5] at hlast
      rw [h1,h5,g1]
      exact ⟨lf,⟨h.holds,h.live,h.hist,h.mem,h.used⟩,fun _ _ => rfl,hlast⟩
    · left
      obtain ⟨h4,h5⟩:=h2 (by rw [g1]; decide)
      rw [h1]
      exact ⟨g2,by rw [h4,g1],g3⟩
    · right
      have h5:=h3 g1
      refine ⟨lf ++ [⟨x,ceil⟩],⟨?_,?_,?_,fun k => ?_,?_⟩,fun k hk => by rw [h1,g3]; exact hg k hk,hlast⟩
      · show Holds m Q.B (ledNextN _ _ _ _ _).1.now _ _ _ _
        rw [h1,g3]
        exact hF
      · show (ledNextN _ _ _ _ _).1.dead = false
        rw [h1]
        exact g2
      · show Hist (P Q.B) (ledNextN _ _ _ _ _).1
        rw [h1]
        exact g4
      · show (lgOf (ledNextN _ _ _ _ _).2.1 k).c ≤ (lgOf (ledNextN _ _ _ _ _).2.1 k).ceil ∧ (lgOf (ledNextN _ _ _ _ _).2.1 k).ceil = _
        rw [h5,lgOf_put,lgOf_puts]
        have:=h.mem k
        by_cases e : x = k
        · rw [if_pos e,if_pos e]
          exact ⟨by dsimp only; omega,rfl⟩
        · rw [if_neg e,if_neg e]
          exact this
      · show ∀ id r,Q.rows.get id = some r → r.cnt < (lgOf (ledNextN _ _ _ _ _).2.1 _).c
        rw [h5]
        exact hput _ (by dsimp only; omega)
theorem sealed_good (h : Good P m Q lf) (hmk : c.master = m) (hst : 1 ≤ c.step) (hmost : c.most ≤ 1099511627776) (hs : Q.B.slim) (hmo : Mono P) (hold : Old P m Q) (e : En) (body : Bs) :
    ((Q.sealed c e body).1.D.dead = true ∧ (Q.sealed c e body).2.2 = 13 ∧ Hist (P (Q.sealed c e body).1.B) (Q.sealed c e body).1.D) ∨
    (∃ lf2,Good P m (Q.sealed c e body).1 lf2 ∧ (Q.sealed c e body).1.rows = Q.rows ∧ (Q.sealed c e body).1.last = Q.last ∧ (Q.sealed c e body).1.ring = Q.ring ∧ Q.B.le (Q.sealed c e body).1.B ∧ (∀ k,k ≠ ledB → (Q.sealed c e body).1.D.now.get k = Q.D.now.get k) ∧
      ((Q.sealed c e body).2.2 = 0 → e.dom.length ≤ 255 ∧ enMay (Q.entry c e) = true ∧ slOpened (Q.sealed c e body).1.B (keyB m e.dom (Q.epoch e.dom)) (Q.sealed c e body).2.1 = (Q.entry c e,body,0) ∧
        (Q.entry c e).cnt = (lgOf Q.led (ringKey e.dom (Q.epoch e.dom))).c ∧ (Q.entry c e).cnt < (lgOf (Q.sealed c e body).1.led (ringKey e.dom (Q.epoch e.dom))).c)):=by
  rcases next_good h hst hmost hold e.dom with ⟨d1,d2,d3⟩ | ⟨lf2,d1,d2,d3⟩
  · left
    unfold Sq.sealed
    rw [if_pos (by rw [d2]; decide)]
    exact ⟨d1,d2,d3⟩
  · right
    refine ⟨lf2,?_⟩
    unfold Sq.sealed
    split
    · rename_i h0
      exact ⟨d1,rfl,rfl,rfl,Bx.le.refl _,d2,fun hz => absurd hz h0⟩
    · rename_i h0
      split
      · exact ⟨d1,rfl,rfl,rfl,Bx.le.refl _,d2,fun hz => by cases hz⟩
      · rename_i h255
        have hle:=slSeal_le Q.B (keyB c.master e.dom (Q.epoch e.dom)) (Q.entry c e) body
        have hc:=d3 (Classical.byContradiction fun hh => h0 hh)
        have hcnt : (Q.entry c e).cnt = (lgOf Q.led (ringKey e.dom (Q.epoch e.dom))).c:=by
          show (lgOf (Q.next c e.dom).2.1 (ringKey e.dom (Q.epoch e.dom))).c - 1 = _
          omega
        refine ⟨⟨d1.holds.le hle,d1.live,d1.hist.mono (fun F hF => hmo _ _ F hle hF),d1.mem,d1.used⟩,rfl,rfl,rfl,hle,d2,fun hz => ?_⟩
        rw [← hmk]
        obtain ⟨b1,_,b3⟩:=slSeal_back hs (keyB_length _ _ _) hz
        exact ⟨by omega,b1,b3,hcnt,by rw [hcnt]; show _ < (lgOf (Q.next c e.dom).2.1 _).c; omega⟩
end
end
section
open Go.RowKit Go.Maps Go.Shelf
theorem spoolOpen_arg {c : Sc} {D : Dk} {B : Bx} (h : c.step < 1 ∨ 1000 < c.step ∨ 1099511627776 < c.most) : spoolOpen c D B = (D,none,1):=by
  unfold spoolOpen
  rw [if_pos h]
def slFound (c : Sc) (D : Dk) (B : Bx) (led : Mp Cnt) (ring : Mp RSt) : Sq:={ slBegin (ringOpen (ledOpen D).1).1 B led ring with D:=(slIndex (ringOpen (ledOpen D).1).1).1 }
theorem spoolOpen_eq {c : Sc} {D : Dk} {B : Bx} (h : ¬ (c.step < 1 ∨ 1000 < c.step ∨ 1099511627776 < c.most)) : spoolOpen c D B =
    match (ledOpen D).2.1 with
    | none => ((ledOpen D).1,none,(ledOpen D).2.2)
    | some led => match (ringOpen (ledOpen D).1).2.1 with
      | none => ((ringOpen (ledOpen D).1).1,none,(ringOpen (ledOpen D).1).2.2)
      | some ring => if (slIndex (ringOpen (ledOpen D).1).1).2 ≠ 0 then ((slIndex (ringOpen (ledOpen D).1).1).1,none,(slIndex (ringOpen (ledOpen D).1).1).2)
        else if ((slFound c D B led ring).recover c.master).2 ≠ 0 then (((slFound c D B led ring).recover c.master).1.D,none,((slFound c D B led ring).recover c.master).2) else (((slFound c D B led ring).recover c.master).1.D,some ((slFound c D B led ring).recover c.master).1,0):=by
  unfold spoolOpen
  rw [if_neg h]
  rfl
theorem ledOpen_no {D : Dk} (h : (ledOpen D).2.1 = none) : (ledOpen D).2.2 ≠ 0:=by
  unfold ledOpen at h ⊢
  split at h
  · cases h
  · rename_i h1
    rw [if_neg h1]
    split at h
    · rename_i h2
      rw [if_pos h2]
      exact h2
    · rename_i h2
      rw [if_neg h2]
      split at h
      · rename_i h3
        rw [if_pos h3]
        exact h3
      · cases h
theorem ledOpen_yes {D : Dk} {M : Mp Cnt} (h : (ledOpen D).2.1 = some M) : (ledOpen D).2.2 = 0:=by
  unfold ledOpen at h ⊢
  split at h
  · rename_i h1
    rw [if_pos h1]
  · rename_i h1
    rw [if_neg h1]
    split at h
    · cases h
    · rename_i h2
      rw [if_neg h2]
      split at h
      · cases h
      · rename_i h3
        rw [if_neg h3]
theorem ringOpen_no {D : Dk} (h : (ringOpen D).2.1 = none) : (ringOpen D).2.2 ≠ 0:=by
  unfold ringOpen at h ⊢
  split at h
  · cases h
  · rename_i h1
    rw [if_neg h1]
    split at h
    · rename_i h2
      rw [if_pos h2]
      exact h2
    · rename_i h2
      rw [if_neg h2]
      split at h
      · rename_i h3
        rw [if_pos h3]
        exact h3
      · cases h
theorem ringOpen_yes {D : Dk} {M : Mp RSt} (h : (ringOpen D).2.1 = some M) : (ringOpen D).2.2 = 0:=by
  unfold ringOpen at h ⊢
  split at h
  · rename_i h1
    rw [if_pos h1]
  · rename_i h1
    rw [if_neg h1]
    split at h
    · cases h
    · rename_i h2
      rw [if_neg h2]
      split at h
      · cases h
      · rename_i h3
        rw [if_neg h3]
theorem drop_box (Q : Sq) (id : Nat) : (Q.drop id).1.B = Q.B:=by
  unfold Sq.drop
  split
  · rfl
  · split
    · rfl
    · rfl
theorem recStep_box (m : Bs) (r : Rec) (id : Nat) : (slRecStep m r id).1.Q.B = r.Q.B:=by
  unfold slRecStep
  split
  · rfl
  · split
    · exact drop_box _ _
    · exact drop_box _ _
theorem rec1_box (m : Bs) : ∀ (l : List Nat) (r : Rec),(slRec1 m l r).1.Q.B = r.Q.B
  | [],r => rfl
  | id :: l,r => by
    rw [slRec1_cons]
    split
    · exact recStep_box m r id
    · rw [rec1_box m l,recStep_box]
theorem recover_box (Q : Sq) (m : Bs) : (Q.recover m).1.B = Q.B:=by
  have h:=rec1_box m Q.ids ⟨Q,[],false⟩
  rw [recover_eq]
  split
  · exact h
  · split
    · exact h
    · split
      · exact h
      · exact h
def SlPost (w0 : World) (L : List Res) (c : Sc) (d b : Nat) (B : Bx) (R : Dk × Option Sq × Int) (e : Ending) (w2 : World) : Prop :=
  match R.2.1 with
  | none => e = .returned (.tuple #[.pointer none,.int .i64 R.2.2]) ∧ Sp w0 [] w2 (diskR d R.1 :: bxR b B :: L)
  | some Q => ∃ P : SlPt,P.d = d ∧ P.b = b ∧ e = .returned (.tuple #[.pointer (some ⟨P.s,0,none⟩),.int .i64 R.2.2]) ∧ Sp w0 [] w2 (slPs P c Q L)
structure OpenFit (c : Sc) (D : Dk) (B : Bx) (n : Nat) : Prop where
  key : c.master.length = 32
  room : D.Roomy n
  led : (ledOpen D).1.Roomy n
  ring : (ringOpen (ledOpen D).1).1.Roomy n
  small : n ≤ 1000000
  found : ∀ led ring,(ledOpen D).2.1 = some led → (ringOpen (ledOpen D).1).2.1 = some ring → (slIndex (ringOpen (ledOpen D).1).1).2 = 0 → ∃ F,SlOk c n (slFound c D B led ring) ∧
    ((slRec1 c.master (slFound c D B led ring).ids ⟨slFound c D B led ring,[],false⟩).1.Q.D.now.names queueB).length ≤ F ∧ (∀ f ∈ (slRec1 c.master (slFound c D B led ring).ids ⟨slFound c D B led ring,[],false⟩).1.Q.D.now.names queueB,f.length ≤ 1000000) ∧ n + 403 * (slFound c D B led ring).rows.length + F + 1000 ≤ 1000000
section
variable {w0 w : World} {L : List Res} {d b : Nat}
theorem slOpenNilS (c : Sc) (S : Sp w0 [] w L) :
    Calls Tryz.prog 7 #[.pointer none,.pointer (some ⟨b,0,none⟩),.string ⟨c.master.toArray⟩,.int .u64 c.step,.int .u64 c.most] w fun e w2 => e = .returned (.tuple #[.pointer none,.int .i64 1]) ∧ Sp w0 [] w2 L:=by
  have HS:=Lib.hid S
  clear S
  go_enter Tryz.func7,Tryz.ntmps7
  go_wp2_with fail
  go_ret2
  exact ⟨rfl,HS.out⟩
theorem spoolOpenS (c : Sc) (D : Dk) (B : Bx) (n : Nat) (hkey : c.master.length = 32) (hfit : ¬ (c.step < 1 ∨ 1000 < c.step ∨ 1099511627776 < c.most) → OpenFit c D B n) (E : Env w0) (S : Sp w0 [] w (diskR d D :: bxR b B :: L)) :
    Calls Tryz.prog 7 #[.pointer (some ⟨d,0,none⟩),.pointer (some ⟨b,0,none⟩),.string ⟨c.master.toArray⟩,.int .u64 c.step,.int .u64 c.most] w (SlPost w0 L c d b B (spoolOpen c D B)):=by
  have hk : (c.master.length : Int) = 32:=by omega
  have HS:=Lib.hid S
  have hmm:=@run_makeMap Tryz.prog
  clear S
  by_cases harg : c.step < 1 ∨ 1000 < c.step ∨ 1099511627776 < c.most
  · have HV : Hid (spoolOpen c D B = (D,none,1)):=spoolOpen_arg harg
    have HL:=Lib.hid (ledOpen_arg (d:=d) c.step c.most HS.out harg)
    clear harg hfit
    go_enter Tryz.func7,Tryz.ntmps7
    go_wp2_with fail
    refine HL.out.mono ?_
    rintro e w2 ⟨rfl,S⟩
    have HS2:=Lib.hid S
    clear S HS HL
    go_wp2_with fail
    go_ret2
    rw [HV.out]
    exact ⟨rfl,HS2.out⟩
  have HV : Hid (spoolOpen c D B = _):=Lib.hid (spoolOpen_eq harg)
  have hfit:=hfit harg
  have HL:=Lib.hid (ledOpenS c.step c.most n D HS.out (by omega) (by omega) (by omega) hfit.room (by have:=hfit.small; omega))
  have HR:=Lib.hid (fun (w' : World) (K' : List Res) (S' : Sp w0 [] w' (diskR d (ledOpen D).1 :: K')) => ringOpenS n (ledOpen D).1 S' hfit.led (by have:=hfit.small; omega))
  have HFIT:=Lib.hid hfit
  have HE:=Lib.hid E
  generalize hSO : spoolOpen c D B = so at *
  clear harg hfit E hSO
  go_enter Tryz.func7,Tryz.ntmps7
  go_wp2_with fail
  refine HL.out.mono ?_
  intro e w2 hpost
  unfold LedPost at hpost
  cases hled : (ledOpen D).2.1 with
  | none =>
    have hne:=ledOpen_no hled
    rw [hled] at hpost HV
    obtain ⟨rfl,S⟩:=hpost
    have HS2:=Lib.hid S
    have HV2 : Hid (so = ((ledOpen D).1,none,(ledOpen D).2.2)):=HV.out
    generalize (ledOpen D).2.2 = er at *
    have hb : (er != 0) = true:=by simpa using hne
    clear S HS HL HR HV hne hled
    go_wp2_with fail
    go_ret2
    rw [HV2.out]
    exact ⟨rfl,HS2.out⟩
  | some led =>
    have hz:=ledOpen_yes hled
    rw [hled] at hpost HV
    obtain ⟨pl,rfl,S⟩:=hpost
    rw [hz]
    have HS2:=Lib.hid S.pull1
    have HLED:=Lib.hid hled
    clear S HS HL hz hled
    go_wp2_with fail
    refine (HR.out _ _ HS2.out).mono ?_
    clear HS2 HR
    intro e w3 hpost
    unfold OpenPost at hpost
    cases hring : (ringOpen (ledOpen D).1).2.1 with
    | none =>
      have hne:=ringOpen_no hring
      rw [hring] at hpost HV
      obtain ⟨rfl,S⟩:=hpost
      have HS2:=Lib.hid ((Sp.pick [_,_] [0] (by decide) (S)))
      have HV2 : Hid (so = ((ringOpen (ledOpen D).1).1,none,(ringOpen (ledOpen D).1).2.2)):=HV.out
      generalize (ringOpen (ledOpen D).1).2.2 = er at *
      have hb : (er != 0) = true:=by simpa using hne
      clear S HV hne hring
      go_wp2_with fail
      go_ret2
      rw [HV2.out]
      exact ⟨rfl,HS2.out⟩
    | some ring =>
      have hz:=ringOpen_yes hring
      rw [hring] at hpost HV
      obtain ⟨pr,rfl,S⟩:=hpost
      rw [hz]
      have HREC:=Lib.hid (HFIT.out.found led ring HLED.out hring)
      have hrm:=HFIT.out.ring
      have hkey:=HFIT.out.key
      have hsm:=HFIT.out.small
      have HV2 : Hid (so = if (slIndex (ringOpen (ledOpen D).1).1).2 ≠ 0 then ((slIndex (ringOpen (ledOpen D).1).1).1,none,(slIndex (ringOpen (ledOpen D).1).1).2)
        else if ((slFound c D B led ring).recover c.master).2 ≠ 0 then (((slFound c D B led ring).recover c.master).1.D,none,((slFound c D B led ring).recover c.master).2) else (((slFound c D B led ring).recover c.master).1.D,some ((slFound c D B led ring).recover c.master).1,0)):=HV.out
      have hf : slFound c D B led ring = { slBegin (ringOpen (ledOpen D).1).1 B led ring with D:=(slIndex (ringOpen (ledOpen D).1).1).1 }:=rfl
      unfold slBegin at hf
      have HIX:=Lib.hid (fun (w' : World) (P : SlPt) (S' : Sp w0 [] w' (slPs P c ⟨(ringOpen (ledOpen D).1).1,B,led,ring,[],0⟩ L)) => slIndexS n rfl rfl hrm (by omega) S')
      have HIF:=Lib.hid hf
      clear hf hrm hz hring HV HFIT HLED
      generalize slFound c D B led ring = Q1 at *
      generalize (ringOpen (ledOpen D).1).1 = D1 at *
      dsimp only at *
      rw [← HIF.out] at HIX
      have S2:=(S.mapNMade 34 Row3.agg).box #[.pointer (some ⟨d,0,none⟩),.pointer (some ⟨b,0,none⟩),.string ⟨c.master.toArray⟩,.pointer (some ⟨pl,0,none⟩),.pointer (some ⟨pr,0,none⟩),.map (some w3.heap.size),.int .u64 (0 : Nat)] 90
      simp only [World.size_alloc] at S2
      have HS2:=Lib.hid S2
      clear S S2
      go_upto_region 10 with (fail)
      generalize (w3.alloc _).alloc _ = w4 at *
      generalize w3.heap.size + 1 = s at *
      generalize w3.heap.size = m at *
      have HZ : Hid (Sp w0 [] w4 (slPs ⟨s,d,b,pl,pr,m⟩ c ⟨D1,B,led,ring,[],0⟩ L)):=(Sp.pick [_,_,_,_,_,_] [0,1,3,5,4,2] (by decide) (HS2.out))
      clear HS2 hmm
      go_wp2_with fail
      refine (HIX.out _ ⟨s,d,b,pl,pr,m⟩ HZ.out).mono ?_
      clear HIX
      rintro e w5 ⟨rfl,S⟩
      have HS2:=Lib.hid S
      clear S HZ
      generalize hix : (slIndex D1).2 = ei at *
      by_cases he : ei = 0
      rotate_left 1
      · have hb : (ei != 0) = true:=by simpa using he
        have HV3 : Hid (so = (Q1.D,none,ei)):=by unfold Hid; rw [HV2.out,if_pos he,HIF.out]
        have HS3:=HS2.out
        unfold slPs at HS3
        have HS4 : Hid (Sp w0 [] w5 (diskR d Q1.D :: bxR b Q1.B :: L)):=(Sp.pick [_,_,_,_,_,_] [2,3] (by decide) (HS3))
        have hB : Q1.B = B:=by rw [HIF.out]
        rw [hB] at HS4
        clear he HV2 HREC HS2 HS3 hB
        go_wp2_with fail
        go_ret2
        rw [HV3.out]
        exact ⟨rfl,HS4.out⟩
      subst he
      rw [if_neg (by simp)] at HV2
      obtain ⟨F,hq1,hq2,hq3,hq4⟩:=HREC.out rfl
      have HRC:=Lib.hid (fun (w' : World) (P : SlPt) (S' : Sp w0 [] w' (slPs P c Q1 L)) => slRecoverS n F hq1 hq2 hq3 hq4 HE.out S')
      have hB : (Q1.recover c.master).1.B = B:=by rw [recover_box,HIF.out]
      have HB:=Lib.hid hB
      clear hq1 hq2 hq3 hq4 HREC HIF hB
      generalize Q1.recover c.master = rc at *
      obtain ⟨Q2,er⟩:=rc
      dsimp only at *
      go_wp2_with fail
      refine (HRC.out _ _ HS2.out).mono ?_
      rintro e w6 ⟨rfl,S⟩
      have HS3:=Lib.hid S
      clear S HS2 HRC
      by_cases he : er = 0
      · subst he
        rw [if_neg (by simp)] at HV2
        go_wp2_with fail
        go_ret2
        rw [HV2.out]
        exact ⟨⟨s,d,b,pl,pr,m⟩,rfl,rfl,rfl,HS3.out⟩
      · have hb : (er != 0) = true:=by simpa using he
        rw [if_pos he] at HV2
        have HS4:=HS3.out
        unfold slPs at HS4
        have HS5 : Hid (Sp w0 [] w6 (diskR d Q2.D :: bxR b Q2.B :: L)):=(Sp.pick [_,_,_,_,_,_] [2,3] (by decide) (HS4))
        rw [HB.out] at HS5
        clear he HS3 HS4
        go_wp2_with fail
        go_ret2
        rw [HV2.out]
        exact ⟨rfl,HS5.out⟩
end
end
end Go.Proofs.YtangbdahnmomlaaGreatDoor
