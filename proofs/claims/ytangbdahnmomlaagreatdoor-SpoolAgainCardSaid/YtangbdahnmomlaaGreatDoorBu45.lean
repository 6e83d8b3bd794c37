/- law 16: SpoolAgain's walk. Conditions: what Go's variables hold; the arguments are some. -/
import Derived.Test.YtangbdahnmomlaaGreatDoorBu27
import Derived.Test.YtangbdahnmomlaaGreatDoorBu44
set_option linter.unnecessarySimpa false
set_option linter.unusedSimpArgs false
set_option linter.unusedVariables false
set_option maxHeartbeats 16000000
set_option maxRecDepth 1000000
namespace Go.Proofs.YtangbdahnmomlaaGreatDoor
section
open Go.RowKit Go.Maps
def master16 : Bs:=[48,49,50,51,52,53,54,55,56,57,97,98,99,100,101,102,48,49,50,51,52,53,54,55,56,57,97,98,99,100,101,102]
theorem m32 : master16.length = 32:=by decide
theorem room16 : Dk.new.Roomy 100 ∧ D16a.Roomy 100 ∧ D16b.Roomy 100 :=
  ⟨⟨of_decide_eq_true (by kernel_rfl),of_decide_eq_true (by kernel_rfl),of_decide_eq_true (by kernel_rfl),of_decide_eq_true (by kernel_rfl),of_decide_eq_true (by kernel_rfl)⟩,
   ⟨of_decide_eq_true (by kernel_rfl),of_decide_eq_true (by kernel_rfl),of_decide_eq_true (by kernel_rfl),of_decide_eq_true (by kernel_rfl),of_decide_eq_true (by kernel_rfl)⟩,
   ⟨of_decide_eq_true (by kernel_rfl),of_decide_eq_true (by kernel_rfl),of_decide_eq_true (by kernel_rfl),of_decide_eq_true (by kernel_rfl),of_decide_eq_true (by kernel_rfl)⟩⟩
theorem fit16 {c : Sc} {B : Bx} (hk : c.master.length = 32) (hB : B.slim) (ht : 1000 * B.tab ≤ 100) (h : ¬ (c.step < 1 ∨ 1000 < c.step ∨ 1099511627776 < c.most)) : OpenFit c Dk.new B 100:=by
  refine ⟨hk,room16.1,by rw [open16_l]; exact room16.2.1,by rw [open16_l]; dsimp only; rw [open16_r]; exact room16.2.2,by decide,fun led ring h1 h2 _ => ?_⟩
  rw [open16_l] at h1 h2
  dsimp only at h1 h2
  rw [open16_r] at h2
  cases h1
  cases h2
  rw [found16,recover16]
  have hn : (Q16 B).D.now.names queueB = []:=names16
  dsimp only
  rw [hn]
  exact ⟨0,ok16 hk h hB ht,Nat.le_refl _,by simp,by show 100 + 403 * 0 + 0 + 1000 ≤ 1000000; decide⟩
theorem ledPuts_all : ∀ (l : List LRow) (M : Mp Cnt),(∀ x ∈ l,lrowOk x) → (∀ p ∈ M,p.2.c ≤ p.2.ceil ∧ p.2.ceil ≤ 1099511627776) → ∀ p ∈ l.foldl (fun M p => M.put p.key ⟨p.ceil,p.ceil⟩) M,p.2.c ≤ p.2.ceil ∧ p.2.ceil ≤ 1099511627776
  | [],M,_,h => h
  | x :: l,M,hl,h => ledPuts_all l _ (fun y hy => hl y (by simp [hy])) (fun p hp => by
    rcases Mp.mem_put.1 hp with rfl | ⟨hp,_⟩
    · exact ⟨Nat.le_refl _,(hl x (by simp)).2⟩
    · exact h p hp)
theorem ledOpen_led {D : Dk} {M : Mp Cnt} (h : (ledOpen D).2.1 = some M) : (∀ p ∈ M,p.2.c ≤ p.2.ceil ∧ p.2.ceil ≤ 1099511627776) ∧ M.length ≤ (ledFile D).length:=by
  have hM : M = ledPuts (ledRows (ledFile D)):=by
    unfold ledOpen at h
    split at h
    · cases h; rfl
    · split at h
      · cases h
      · split at h
        · cases h
        · cases h; rfl
  have hs:=ledScan_len ((ledFile D).length + 1) (ledFile D)
  have hp:=ledPuts_length (ledRows (ledFile D))
  have hlen : (ledRows (ledFile D)).length ≤ (ledFile D).length:=by
    have:=hs.1
    unfold ledRows
    omega
  rw [hM]
  exact ⟨ledPuts_all _ [] hs.2 (by simp),by omega⟩
theorem again_fit {m : Bs} {c : Sc} {n : Nat} {Q : Sq} (h : Up m Q) (hok : SlOk c n Q) (hmk : c.master = m) (hn : n ≤ 940000) (hr : Q.rows.length ≤ 100) (hf : Q.D.now.length ≤ 1000) : OpenFit c Q.D Q.B n:=by
  obtain ⟨lf,_,hup,hl,hrg,hi,hfd⟩:=reopen h hok hmk
  refine ⟨hok.key,hok.room,by rw [hl]; exact hok.room,by rw [hl]; dsimp only; rw [hrg]; exact hok.room,by omega,fun led ring h1 h2 _ => ?_⟩
  rw [hl] at h1 h2
  dsimp only at h1 h2
  rw [hrg] at h2
  cases h1
  cases h2
  rw [hfd,hmk,(recover_same hup hok.fit).2.2]
  refine ⟨1000,?_,?_,fun f hfm => ?_,by show n + 403 * Q.rows.length + 1000 + 1000 ≤ 1000000; omega⟩
  · have hb:=ledOpen_led (D:=Q.D) (M:=ledPuts lf) (by rw [hl])
    have hfl : (ledFile Q.D).length ≤ n:=hok.room.file ledB
    exact { hok with led:=hb.1,ledn:=Nat.le_trans hb.2 hfl }
  · show (Q.D.now.names queueB).length ≤ 1000
    unfold Fs.names
    exact Nat.le_trans (List.length_filter_le _ _) (by rw [List.length_map]; exact hf)
  · obtain ⟨g1,g2⟩:=names_get (F:=Q.D.now) hfm
    rcases h.tidy f g1 with rfl | rfl | rfl | ⟨id,r,hr,rfl⟩
    · decide
    · decide
    · decide
    · have:=hok.fit _ (Mn.get_mem hr)
      have:=fileB_len id r.ep r.cnt this.1 this.2.2.1 this.2.2.2
      omega
theorem reopen2 {m : Bs} {c : Sc} {n : Nat} {Q : Sq} (h : Up m Q) (hok : SlOk c n Q) (hmk : c.master = m) : ∃ lf,spoolOpen c Q.D Q.B = (Q.D,some { Q with led:=ledPuts lf },0) ∧ Up m { Q with led:=ledPuts lf } ∧ SlOk c n { Q with led:=ledPuts lf }:=by
  obtain ⟨lf,h1,h2,hl,_⟩:=reopen h hok hmk
  have hb:=ledOpen_led (D:=Q.D) (M:=ledPuts lf) (by rw [hl])
  have hfl : (ledFile Q.D).length ≤ n:=hok.room.file ledB
  exact ⟨lf,h1,h2,{ hok with led:=hb.1,ledn:=Nat.le_trans hb.2 hfl }⟩
theorem numCell {w0 w : World} {F0 : List Nat} {L : List Res} {g cap k x : Nat} {ids : List Nat} (S : Sp w0 F0 w (numsR (.slice (some ⟨g,0,none⟩) ids.length cap) ids :: L)) (hk : ids[k]? = some x) : w.cell? ⟨g,k,none⟩ = some (.int .u64 x):=by
  have h:=Sp.rowCell (rs:=ids.map fun n => [encU n]) (n:=ids.length) (e:=34) (k:=1) (g:=g) (cap:=cap) (L:=L) (w0:=w0) (F0:=F0) (w:=w) (by
    have S':=S
    unfold numsR at S'
    rw [flat1]
    exact S') (by simp) (i:=k) (r:=[encU x]) (by rw [List.getElem?_map,hk]; rfl) (j:=0) (u:=encU x) rfl
  simpa using h
theorem ids_load {m : Bs} {c : Sc} {n : Nat} {Q : Sq} (h : Up m Q) (hok : SlOk c n Q) {x : Nat} (hx : x ∈ Q.ids) : x ≤ 1099511627776 ∧ ∃ e body,enMay e = true ∧ Q.load m x = (Q,e,body,0) ∧ Q.open m x = (e,body,true):=by
  obtain ⟨lf,hh⟩:=h.holds
  unfold Sq.ids at hx
  obtain ⟨p,hp,rfl⟩:=List.mem_map.1 hx
  obtain ⟨r,hr⟩ : ∃ r,Q.rows.get p.1 = some r:=by
    have : Q.rows.has p.1 = true:=by unfold Mn.has; rw [List.any_eq_true]; exact ⟨p,hp,by simp⟩
    rw [Mn.has_eq] at this
    exact Option.isSome_iff_exists.1 this
  obtain ⟨e,body,_,ho⟩:=open_right hh hok.fit hr
  have hm:=(open_ok (Q:=Q) (m:=m) (id:=p.1) (by rw [ho])).1
  rw [ho] at hm
  refine ⟨(hok.fit _ hp).1,e,body,hm,?_,ho⟩
  rw [load_eq,if_neg (by rw [Mn.has_eq,hr]; simp),if_pos (by rw [ho]),ho]
theorem open_same {m : Bs} {Q Q2 : Sq} (h : Q2.D = Q.D ∧ Q2.B = Q.B ∧ Q2.rows = Q.rows ∧ Q2.last = Q.last ∧ Q2.ring = Q.ring) (x : Nat) : Q2.open m x = Q.open m x:=by
  obtain ⟨h1,h2,h3,_,h5⟩:=h
  unfold Sq.open
  rw [h1,h2,h3,h5]
theorem bad_none {m : Bs} {Q : Sq} (h : Up m Q) : Q.D.now.names asideB = []:=by
  refine List.eq_nil_iff_forall_not_mem.2 fun f hf => ?_
  obtain ⟨g1,g2⟩:=names_get hf
  rcases h.tidy f g1 with rfl | rfl | rfl | ⟨id,r,hr,rfl⟩
  · exact absurd g2 (by decide)
  · exact absurd g2 (by decide)
  · exact absurd g2 (by decide)
  · simp [fileB,asideB,List.isPrefixOf] at g2
section
theorem spoolAgain_walk0 (ib : Bool) (dr : Bs) (st mo : Nat) (v : Value) (l : List A16v) (w : World) (E : Env w) (hl : Acts16At w v l) (HAW : ∀ (w' : World) (K : List Res),Sp w [] w' K → Calls Tryz.prog 6 #[] w' fun e w2 => e = .returned (.bool true) ∧ Sp w [] w2 K) :
    Calls Tryz.prog 5 #[cfg16Agg ib dr st mo,v] w fun e w2 => e = .returned (.bool true) ∧ Ext [] w w2:=by
  obtain ⟨la,lcap,rfl,hlen,hall,hrows⟩:=hl
  have HALL:=Lib.hid hall
  have HROW:=Lib.hid hrows
  have HE:=Lib.hid E
  have HA:=Lib.hid HAW
  have HS0:=Lib.hid ((Sp.nil w []).box #[.bool ib,.string ⟨dr.toArray⟩,.int .u64 st,.int .u64 mo] 58)
  obtain ⟨ln,hln⟩ : ∃ n,l.length = n:=⟨_,rfl⟩
  have HLN:=Lib.hid hln
  have hlb : (ln : Int) ≤ 9223372036854775807:=by unfold maxLen at hlen; omega
  rw [hln]
  unfold cfg16Agg
  clear hlen hall hrows E HAW hln
  go_enter Tryz.func5,Tryz.ntmps5
  go_upto_region 1 with (fail)
  generalize w.alloc _ = w1 at *
  generalize w.heap.size = q at *
  go_wp2_with fail
  refine (HA.out _ _ HS0.out).mono ?_
  rintro e w2 ⟨rfl,S⟩
  have c0:=S.cell
  have HS1:=Lib.hid S
  clear S HS0 HA
  by_cases hd : 16384 < dr.length
  · have hb : (16384 : Int) < dr.length:=by omega
    clear hd
    go_wp2
    go_ret
    exact ⟨rfl,HS1.out.ext⟩
  have hb : (dr.length : Int) ≤ 16384:=by omega
  have HDR : Hid (dr.length ≤ 1000000):=by unfold Hid; omega
  clear hd
  go_wp2_with fail
  refine (newS HS1.out).mono ?_
  rintro e w3 ⟨d,rfl,S⟩
  have c0:=S.pull1.cell
  have HS2:=Lib.hid S
  clear S HS1
  go_wp2_with fail
  refine (idealS dr HS2.out).mono ?_
  rintro e w4 ⟨b,rfl,S⟩
  have c0:=((Sp.pick [_,_,_] [2,0,1] (by decide) (S))).cell
  have HS3 : Hid (Sp w [] w4 (diskR d Dk.new :: bxR b (.ideal dr []) :: [boxR q #[.bool ib,.string ⟨dr.toArray⟩,.int .u64 st,.int .u64 mo] 58])):=S.pull1
  clear S HS2
  have HOP:=Lib.hid (spoolOpenS ⟨master16,st,mo⟩ Dk.new (.ideal dr []) 100 m32 (fun hg => fit16 m32 ⟨HDR.out,fun k x hx => by simp [Mp.get] at hx⟩ (Nat.zero_le _) hg) HE.out HS3.out)
  go_wp2_with fail
  refine HOP.out.mono ?_
  intro e w5 hpost
  unfold SlPost at hpost
  clear HOP HS3 hb
  by_cases harg : st < 1 ∨ 1000 < st ∨ 1099511627776 < mo
  · rw [spoolOpen_arg (c:=⟨master16,st,mo⟩) harg] at hpost
    obtain ⟨rfl,S⟩:=hpost
    have c0:=((Sp.pick [_,_,_] [2,0,1] (by decide) (S))).cell
    have HS4:=Lib.hid S
    clear S
    by_cases h1 : st < 1
    · have g1 : (st : Int) < 1:=by omega
      clear harg h1
      go_wp2
      go_ret
      exact ⟨rfl,HS4.out.ext⟩
    have g1 : (1 : Int) ≤ st:=by omega
    by_cases h2 : 1000 < st
    · have g2 : (1000 : Int) < st:=by omega
      clear harg h1 h2
      go_wp2
      go_ret
      exact ⟨rfl,HS4.out.ext⟩
    have g2 : (st : Int) ≤ 1000:=by omega
    have g3 : (1099511627776 : Int) < mo:=by omega
    clear harg h1 h2
    go_wp2
    go_ret
    exact ⟨rfl,HS4.out.ext⟩
  rw [first16 (c:=⟨master16,st,mo⟩) (B:=.ideal dr []) harg] at hpost
  obtain ⟨P,hPd,hPb,rfl,S⟩:=hpost
  subst hPd hPb
  have HOK0 : Hid (SlOk ⟨master16,st,mo⟩ 100 (Q16 (.ideal dr []))):=ok16 m32 harg ⟨HDR.out,fun k x hx => by simp [Mp.get] at hx⟩ (Nat.zero_le _)
  have HARG:=Lib.hid harg
  have HS4:=Lib.hid S
  clear S c0 harg
  go_wp2_with fail
  go_loopw [9] (fun v9 wr => ∃ (k : Nat) (Q : Sq),v9 = .int .i64 k ∧ k ≤ ln ∧ k ≤ 40 ∧ Up master16 Q ∧ SlOk ⟨master16,st,mo⟩ (100 + 23000 * k) Q ∧ Q.rows.length ≤ 2 * k ∧ Q.D.now.length ≤ 9 * k + 10 ∧ Sp w [] wr (slPs P ⟨master16,st,mo⟩ Q [boxR q #[.bool ib,.string ⟨dr.toArray⟩,.int .u64 st,.int .u64 mo] 58])) (fun v9 _ => 41 - (intOf v9).toNat)
  case atStart => exact ⟨0,Q16 (.ideal dr []),rfl,Nat.zero_le _,by decide,up16 _ _,HOK0.out,Nat.le_refl _,by show D16.now.length ≤ _; rw [D16_now]; decide,HS4.out⟩
  case round =>
    clear HS4 HOK0
    obtain ⟨k,Q,rfl,hk1,hk2,hup,hok,hfr,hff,S⟩:=hrel
    have HUP:=Lib.hid hup
    have HOK:=Lib.hid hok
    have HFE:=Lib.hid (And.intro hfr hff)
    have HS:=Lib.hid S
    clear hup hok hfr hff S
    by_cases hlt : k < ln ∧ k < 40
    · obtain ⟨hlt1,hlt2⟩:=hlt
      have i1 : (k : Int) < ln:=by omega
      have i2 : (k : Int) < 40:=by omega
      obtain ⟨p,hp⟩ : ∃ p,l[k]? = some p:=⟨_,List.getElem?_eq_getElem (by rw [HLN.out]; exact hlt1)⟩
      obtain ⟨ab,ao,rfl⟩:=HROW.out.addr (i:=k) (by rw [List.length_map,HLN.out]; exact hlt1)
      have hcells:=acts16_cells (HROW.out.ext HS.out.ext) hp
      obtain ⟨hwf,hT⟩:=HALL.out p (List.mem_of_getElem? hp)
      obtain ⟨x,v⟩:=p
      dsimp only at hT hwf
      obtain ⟨va,vc,rfl⟩:=hT.form
      have HLG:=Lib.hid (large16_any x (.slice va x.e.rcs.length vc) wr (hT.ext HS.out.ext))
      have HFT:=Lib.hid (@large16_fit x hwf)
      have HTT:=Lib.hid hT
      have HP:=Lib.hid hp
      have HPL : Hid (∀ (w' : World),x.kind ≤ 5 → large16 x = false → Sp w [] w' (slPs P ⟨master16,st,mo⟩ Q [boxR q #[.bool ib,.string ⟨dr.toArray⟩,.int .u64 st,.int .u64 mo] 58]) → Calls Tryz.prog 28 #[.pointer (some ⟨P.s,0,none⟩),.pointer (some ⟨P.d,0,none⟩),A16.agg (x,.slice va x.e.rcs.length vc)] w' fun r w2 => ∃ b,r = .returned (.bool b) ∧ Sp w [] w2 (slPs P ⟨master16,st,mo⟩ (x.play ⟨master16,st,mo⟩ Q) [boxR q #[.bool ib,.string ⟨dr.toArray⟩,.int .u64 st,.int .u64 mo] 58])):=fun w' hk hg S' => played16S x _ (100 + 23000 * k) hk (large16_fit hwf hg).1 HOK.out (by omega) HE.out hT S'
      have HNX : Hid (Up master16 (x.play ⟨master16,st,mo⟩ Q) ∧ SlOk ⟨master16,st,mo⟩ (100 + 23000 * (k + 1)) (x.play ⟨master16,st,mo⟩ Q) ∧ (x.play ⟨master16,st,mo⟩ Q).rows.length ≤ 2 * (k + 1) ∧ (x.play ⟨master16,st,mo⟩ Q).D.now.length ≤ 9 * (k + 1) + 10):=by
        have hl:=play_less ⟨master16,st,mo⟩ Q x
        unfold Sq.less at hl
        have hfe:=HFE.out
        exact ⟨play_up (c:=⟨master16,st,mo⟩) HUP.out HOK.out x,(play_ok HOK.out x).mono (by omega),by omega,by omega⟩
      generalize x.play ⟨master16,st,mo⟩ Q = Q2 at *
      generalize hlg : large16 x = lg at *
      obtain ⟨kind,nn,mm,⟨xi,xd,xe,xc,xf,xr,xb,xn,xt⟩,body⟩:=x
      unfold A16.agg A16.vals at *
      dsimp only at *
      have g0 : wr.cell? ⟨ab,ao + k * 14,none⟩ = some (.int .i64 kind):=hcells 0 (by decide)
      have g1 : wr.cell? ⟨ab,ao + k * 14 + 1,none⟩ = some (.int .i64 nn):=hcells 1 (by decide)
      have g2 : wr.cell? ⟨ab,ao + k * 14 + 2,none⟩ = some (.int .i64 mm):=hcells 2 (by decide)
      have g3 : wr.cell? ⟨ab,ao + k * 14 + 3,none⟩ = some (.int .u64 xi):=hcells 3 (by decide)
      have g4 : wr.cell? ⟨ab,ao + k * 14 + 4,none⟩ = some (.string ⟨xd.toArray⟩):=hcells 4 (by decide)
      have g5 : wr.cell? ⟨ab,ao + k * 14 + 5,none⟩ = some (.int .u64 xe):=hcells 5 (by decide)
      have g6 : wr.cell? ⟨ab,ao + k * 14 + 6,none⟩ = some (.int .u64 xc):=hcells 6 (by decide)
      have g7 : wr.cell? ⟨ab,ao + k * 14 + 7,none⟩ = some (.string ⟨xf.1.toArray⟩):=hcells 7 (by decide)
      have g8 : wr.cell? ⟨ab,ao + k * 14 + 8,none⟩ = some (.string ⟨xf.2.toArray⟩):=hcells 8 (by decide)
      have g9 : wr.cell? ⟨ab,ao + k * 14 + 9,none⟩ = some (.slice va xr.length vc):=hcells 9 (by decide)
      have g10 : wr.cell? ⟨ab,ao + k * 14 + 10,none⟩ = some (.int .u64 xb):=hcells 10 (by decide)
      have g11 : wr.cell? ⟨ab,ao + k * 14 + 11,none⟩ = some (.int .u64 xn):=hcells 11 (by decide)
      have g12 : wr.cell? ⟨ab,ao + k * 14 + 12,none⟩ = some (.int .i64 xt):=hcells 12 (by decide)
      have g13 : wr.cell? ⟨ab,ao + k * 14 + 13,none⟩ = some (.string ⟨body.toArray⟩):=hcells 13 (by decide)
      clear hcells hwf hT hp hlg
      go_wp2_with fail
      refine HLG.out.mono ?_
      rintro e w6 ⟨rfl,hx⟩
      have HS2:=Lib.hid (HS.out.ext0 hx)
      have hcells:=acts16_cells (HROW.out.ext HS2.out.ext) HP.out
      unfold A16.vals at hcells
      dsimp only at hcells
      have d0 : w6.cell? ⟨ab,ao + k * 14,none⟩ = some (.int .i64 kind):=hcells 0 (by decide)
      have d1 : w6.cell? ⟨ab,ao + k * 14 + 1,none⟩ = some (.int .i64 nn):=hcells 1 (by decide)
      have d2 : w6.cell? ⟨ab,ao + k * 14 + 2,none⟩ = some (.int .i64 mm):=hcells 2 (by decide)
      have d3 : w6.cell? ⟨ab,ao + k * 14 + 3,none⟩ = some (.int .u64 xi):=hcells 3 (by decide)
      have d4 : w6.cell? ⟨ab,ao + k * 14 + 4,none⟩ = some (.string ⟨xd.toArray⟩):=hcells 4 (by decide)
      have d5 : w6.cell? ⟨ab,ao + k * 14 + 5,none⟩ = some (.int .u64 xe):=hcells 5 (by decide)
      have d6 : w6.cell? ⟨ab,ao + k * 14 + 6,none⟩ = some (.int .u64 xc):=hcells 6 (by decide)
      have d7 : w6.cell? ⟨ab,ao + k * 14 + 7,none⟩ = some (.string ⟨xf.1.toArray⟩):=hcells 7 (by decide)
      have d8 : w6.cell? ⟨ab,ao + k * 14 + 8,none⟩ = some (.string ⟨xf.2.toArray⟩):=hcells 8 (by decide)
      have d9 : w6.cell? ⟨ab,ao + k * 14 + 9,none⟩ = some (.slice va xr.length vc):=hcells 9 (by decide)
      have d10 : w6.cell? ⟨ab,ao + k * 14 + 10,none⟩ = some (.int .u64 xb):=hcells 10 (by decide)
      have d11 : w6.cell? ⟨ab,ao + k * 14 + 11,none⟩ = some (.int .u64 xn):=hcells 11 (by decide)
      have d12 : w6.cell? ⟨ab,ao + k * 14 + 12,none⟩ = some (.int .i64 xt):=hcells 12 (by decide)
      have d13 : w6.cell? ⟨ab,ao + k * 14 + 13,none⟩ = some (.string ⟨body.toArray⟩):=hcells 13 (by decide)
      clear hcells hx HS HLG
      cases lg with
      | true =>
        go_wp2
        go_ret
        exact ⟨rfl,HS2.out.ext⟩
      | false =>
        by_cases hk : kind ≤ 5
        · have HPL2:=Lib.hid (HPL.out w6 hk rfl HS2.out)
          have hk' : kind ≤ 5:=hk
          clear HPL hk
          go_wp2_with fail
          refine HPL2.out.mono ?_
          rintro e w7 ⟨b,rfl,S⟩
          have HS3:=Lib.hid S
          clear S HPL2 HS2 g0 g1 g2 g3 g4 g5 g6 g7 g8 g9 g10 g11 g12 g13 d0 d1 d2 d3 d4 d5 d6 d7 d8 d9 d10 d11 d12 d13
          go_wp2_with fail
          go_roundw
          case rel => exact ⟨k + 1,Q2,by go_num,by omega,by omega,HNX.out.1,HNX.out.2.1,HNX.out.2.2.1,HNX.out.2.2.2,HS3.out⟩
          case measure => (simp [intOf]; try omega)
        · have hk' : 5 < kind:=by omega
          clear hk HPL
          go_wp2_with fail
          go_roundw
          case rel => exact ⟨k + 1,Q,by go_num,by omega,by omega,HUP.out,HOK.out.mono (by omega),by have:=HFE.out; omega,by have:=HFE.out; omega,HS2.out⟩
          case measure => (simp [intOf]; try omega)
    · have HNL : Hid (¬ (k < ln ∧ k < 40)):=hlt
      go_upto_region 11 with (fail)
      go_cut [64] from 57 to 65 (fun v64 wx => v64 = .bool false ∧ wr = wx)
      case first =>
        by_cases h1 : k < ln
        · have i1 : (k : Int) < ln:=by omega
          have i2 : (40 : Int) ≤ k:=by omega
          clear hlt
          go_wp2_with fail
          go_meet
          case rel => exact ⟨by rw [decide_eq_false (by omega)],rfl⟩
        · have i1 : (ln : Int) ≤ k:=by omega
          clear hlt h1
          go_wp2_with fail
          go_meet
          case rel => exact ⟨rfl,rfl⟩
      case rest =>
      obtain ⟨rfl,rfl⟩:=hcut
      clear hlt HNL
      have hkb : k ≤ 40:=hk2
      obtain ⟨n,hn⟩ : ∃ n,100 + 23000 * k = n:=⟨_,rfl⟩
      have hnb : n ≤ 940000:=by omega
      rw [hn] at HOK
      have HNB:=Lib.hid hnb
      have hfe:=HFE.out
      have HFT2 : Hid (OpenFit ⟨master16,st,mo⟩ Q.D Q.B n):=again_fit HUP.out HOK.out rfl hnb (by omega) (by omega)
      have hbad:=bad_none HUP.out
      obtain ⟨lf,hre,hup2,hok2⟩:=reopen2 HUP.out HOK.out (c:=⟨master16,st,mo⟩) rfl
      obtain ⟨Q2,hQ2⟩ : ∃ Q2 : Sq,{ Q with led:=ledPuts lf } = Q2:=⟨_,rfl⟩
      have hq2 : Q2.D = Q.D ∧ Q2.B = Q.B ∧ Q2.rows = Q.rows ∧ Q2.last = Q.last ∧ Q2.ring = Q.ring:=by rw [← hQ2]; exact ⟨rfl,rfl,rfl,rfl,rfl⟩
      rw [hQ2] at hre hup2 hok2
      have HUP2:=Lib.hid hup2
      have HOK2:=Lib.hid hok2
      have HQ2:=Lib.hid hq2
      have HRE:=Lib.hid hre
      have HBAD:=Lib.hid hbad
      have htr:=HOK.out.room.trace
      have htb : (Q.D.trace.length : Int) ≤ 1000000:=by omega
      have HTB : Hid (Q.D.trace.length < 1000000000000):=by unfold Hid; omega
      have HOPEN:=Lib.hid (fun (w' : World) (L' : List Res) (S' : Sp w [] w' (diskR P.d Q.D :: bxR P.b Q.B :: L')) => spoolOpenS ⟨master16,st,mo⟩ Q.D Q.B n m32 (fun _ => HFT2.out) HE.out S')
      clear hk1 hk2 hfe hkb hn hnb hQ2 hq2 hre hup2 hok2 hbad htr HFT2
      unfold slPs at HS
      go_wp2_with fail
      refine (traceS ((Sp.pick [_,_,_,_,_,_,_] [2,0,1,3,4,5,6] (by decide) (HS.out))) HTB.out).mono ?_
      rintro e w6 ⟨ta,tc,rfl,S⟩
      have c0:=((Sp.pick [_,_,_,_,_,_,_] [6,0,1,2,3,4,5] (by decide) (S))).cell
      have HS1 : Hid (Sp w [] w6 (diskR P.d Q.D :: bxR P.b Q.B :: boxR P.s (slCells P master16 Q.last) 90 :: mapNR 34 Row3.agg P.m Q.rows :: ledR P.l P.d st mo Q.led :: ringR P.r P.d Q.ring :: [boxR q #[.bool ib,.string ⟨dr.toArray⟩,.int .u64 st,.int .u64 mo] 58])):=(Sp.pick [_,_,_,_,_,_,_] [0,3,1,2,4,5,6] (by decide) (S))
      clear S HS
      generalize htn : Q.D.trace.length = tn at *
      go_wp2_with fail
      refine (HOPEN.out _ _ HS1.out).mono ?_
      intro e w7 hpost
      unfold SlPost at hpost
      rw [HRE.out] at hpost
      obtain ⟨P2,hPd,hPb,rfl,S⟩:=hpost
      have HPD:=Lib.hid (And.intro hPd hPb)
      unfold slPs at S
      have HS2 : Hid (Sp w [] w7 (slPs P2 ⟨master16,st,mo⟩ Q2 (boxR P.s (slCells P master16 Q.last) 90 :: mapNR 34 Row3.agg P.m Q.rows :: ledR P.l P.d st mo Q.led :: ringR P.r P.d Q.ring :: [boxR q #[.bool ib,.string ⟨dr.toArray⟩,.int .u64 st,.int .u64 mo] 58]))):=S
      have HSW : Hid (∀ (w' : World) (K : List Res),Sp w [] w' (slPs P2 ⟨master16,st,mo⟩ Q2 (boxR P.s (slCells P master16 Q.last) 90 :: mapNR 34 Row3.agg P.m Q.rows :: ledR P.l P.d st mo Q.led :: ringR P.r P.d Q.ring :: K)) → Sp w [] w' (slPs P ⟨master16,st,mo⟩ Q (boxR P2.s (slCells P2 master16 Q2.last) 90 :: mapNR 34 Row3.agg P2.m Q2.rows :: ledR P2.l P2.d st mo Q2.led :: ringR P2.r P2.d Q2.ring :: K))):=fun w' K h => by
        unfold slPs at h ⊢
        obtain ⟨q1,q2,_⟩:=HQ2.out
        rw [q1,q2,hPd,hPb] at h
        rw [hPd]
        exact (Sp.pick [_,_,_,_,_,_,_,_,_,_] [6,7,2,3,8,9,0,1,4,5] (by decide) (h))
      have HSB : Hid (∀ (w' : World) (K : List Res),Sp w [] w' (slPs P ⟨master16,st,mo⟩ Q (boxR P2.s (slCells P2 master16 Q2.last) 90 :: mapNR 34 Row3.agg P2.m Q2.rows :: ledR P2.l P2.d st mo Q2.led :: ringR P2.r P2.d Q2.ring :: K)) → Sp w [] w' (slPs P2 ⟨master16,st,mo⟩ Q2 (boxR P.s (slCells P master16 Q.last) 90 :: mapNR 34 Row3.agg P.m Q.rows :: ledR P.l P.d st mo Q.led :: ringR P.r P.d Q.ring :: K))):=fun w' K h => by
        unfold slPs at h ⊢
        obtain ⟨q1,q2,_⟩:=HQ2.out
        rw [q1,q2,hPd,hPb]
        rw [hPd] at h
        exact (Sp.pick [_,_,_,_,_,_,_,_,_,_] [6,7,2,3,8,9,0,1,4,5] (by decide) (h))
      have HT2 : Hid (∀ (w' : World) (K : List Res),Sp w [] w' (slPs P2 ⟨master16,st,mo⟩ Q2 K) → Calls Tryz.prog 29 #[.pointer (some ⟨P.d,0,none⟩)] w' fun r w2 => ∃ a cc,r = .returned (.slice a tn cc) ∧ Sp w [] w2 (slPs P2 ⟨master16,st,mo⟩ Q2 K)):=fun w' K h => by
        unfold slPs at h ⊢
        obtain ⟨q1,_⟩:=HQ2.out
        rw [q1,hPd] at h ⊢
        refine (traceS ((Sp.pick [_,_,_,_,_,_] [2,0,1,3,4,5] (by decide) (h))) (by rw [htn]; exact HTB.out)).mono ?_
        rintro r w2 ⟨a,cc,rfl,S'⟩
        exact ⟨a,cc,by rw [htn],(Sp.pick [_,_,_,_,_,_] [1,2,0,3,4,5] (by decide) (S'))⟩
      have HLN2 : Hid (Q2.D.now.length < 1000000000000):=by have:=HOK2.out.room.now; have:=HNB.out; unfold Hid; omega
      have hbad2 : Q2.D.now.names asideB = []:=by rw [HQ2.out.1]; exact HBAD.out
      have HBD2:=Lib.hid hbad2
      have HLQ : Hid (Q2.last = Q.last):=HQ2.out.2.2.2.1
      clear S HS1 HOPEN c0 hPd hPb hbad2 HRE
      go_wp2_with fail
      refine (HT2.out _ _ HS2.out).mono ?_
      rintro e w8 ⟨ta2,tc2,rfl,S⟩
      have HS3:=Lib.hid S
      clear S HS2 HT2
      go_wp2_with fail
      refine (slBadS HLN2.out HS3.out).mono ?_
      rintro e w9 ⟨bv,rfl,S⟩
      obtain ⟨ba,bc,rfl⟩:=S.textSlice
      have HS4:=Lib.hid S.drop
      rw [HBD2.out]
      dsimp only [List.length_nil]
      clear S HS3
      go_wp2_with fail
      refine (slLastS HS4.out).mono ?_
      rintro e w10 ⟨rfl,S⟩
      have HS5:=Lib.hid (HSW.out _ _ S)
      rw [HLQ.out]
      clear S HS4
      go_wp2_with fail
      refine (slLastS HS5.out).mono ?_
      rintro e w11 ⟨rfl,S⟩
      have HS6:=Lib.hid S
      clear S HS5
      have HIL : Hid (Q.rows.length ≤ 1000000 ∧ Q2.rows.length ≤ 1000000):=by
        have h1:=HOK.out.len
        have h2:=HOK2.out.len
        have h3:=HNB.out
        exact ⟨by omega,by omega⟩
      go_wp2_with fail
      refine (slIdsS HIL.out.1 HS6.out).mono ?_
      rintro e w12 ⟨v1,rfl,S⟩
      have hids : Q2.ids = Q.ids:=by unfold Sq.ids; rw [HQ2.out.2.2.1]
      unfold slPs at S
      have S2:=(Sp.pick [_,_,_,_,_,_,_,_,_,_,_] [1,2,3,4,5,6,7,8,9,10,0] (by decide) (S))
      have HS7:=Lib.hid (HSB.out _ (numsR v1 Q.ids :: [boxR q #[.bool ib,.string ⟨dr.toArray⟩,.int .u64 st,.int .u64 mo] 58]) S2)
      clear S S2 HS6
      go_wp2_with fail
      refine (slIdsS HIL.out.2 HS7.out).mono ?_
      rintro e w13 ⟨v2,rfl,S⟩
      rw [hids] at S
      unfold slPs at S
      have S2:=(Sp.pick [_,_,_,_,_,_,_,_,_,_,_,_] [1,2,3,4,5,6,7,8,9,10,11,0] (by decide) (S))
      have HS8:=Lib.hid (HSW.out _ (numsR v1 Q.ids :: numsR v2 Q.ids :: [boxR q #[.bool ib,.string ⟨dr.toArray⟩,.int .u64 st,.int .u64 mo] 58]) S2)
      clear S S2 HS7 hids
      obtain ⟨ids,hI⟩ : ∃ ids,Q.ids = ids:=⟨_,rfl⟩
      rw [hI] at HS8
      obtain ⟨nl,hnl⟩ : ∃ nl,ids.length = nl:=⟨_,rfl⟩
      have HNLI:=Lib.hid hnl
      have HIE:=Lib.hid hI
      have hnlb : (nl : Int) ≤ 1000000:=by
        have h1 : nl = Q.rows.length:=by rw [← hnl,← hI]; unfold Sq.ids; rw [List.length_map]
        have:=HIL.out.1
        omega
      have HIDL : Hid (∀ x ∈ ids,x ≤ 1099511627776 ∧ ∃ e body,enMay e = true ∧ Q.load master16 x = (Q,e,body,0) ∧ Q2.load master16 x = (Q2,e,body,0)):=fun x hx => by
        rw [← hI] at hx
        obtain ⟨h1,e,body,h2,h3,h4⟩:=ids_load HUP.out HOK.out hx
        obtain ⟨_,e',body',_,h5,h6⟩:=ids_load (x:=x) HUP2.out HOK2.out (by unfold Sq.ids at hx ⊢; rw [HQ2.out.2.2.1]; exact hx)
        rw [open_same HQ2.out,h4] at h6
        cases h6
        exact ⟨h1,e,body,h2,h3,h5⟩
      obtain ⟨a1,cap1,rfl,ha1⟩ : ∃ (a : Option Addr) (cap : Nat),v1 = .slice a nl cap ∧ (0 < nl → ∃ g,a = some ⟨g,0,none⟩):=by
        have h8:=HS8.out
        unfold slPs at h8
        rcases ((Sp.pick [_,_,_,_,_,_,_,_,_,_,_,_] [10,0,1,2,3,4,5,6,7,8,9,11] (by decide) (h8))).rowForm with ⟨rfl,h0⟩ | ⟨g,cap,rfl⟩
        · exact ⟨none,0,by rw [← hnl,h0],fun h => by omega⟩
        · exact ⟨_,cap,by rw [hnl],fun _ => ⟨g,rfl⟩⟩
      obtain ⟨a2,cap2,rfl,ha2⟩ : ∃ (a : Option Addr) (cap : Nat),v2 = .slice a nl cap ∧ (0 < nl → ∃ g,a = some ⟨g,0,none⟩):=by
        have h8:=HS8.out
        unfold slPs at h8
        rcases ((Sp.pick [_,_,_,_,_,_,_,_,_,_,_,_] [11,0,1,2,3,4,5,6,7,8,9,10] (by decide) (h8))).rowForm with ⟨rfl,h0⟩ | ⟨g,cap,rfl⟩
        · exact ⟨none,0,by rw [← hnl,h0],fun h => by omega⟩
        · exact ⟨_,cap,by rw [hnl],fun _ => ⟨g,rfl⟩⟩
      have HA1:=Lib.hid ha1
      have HA2:=Lib.hid ha2
      clear hnl hI ha1 ha2
      go_wp2_with fail
      go_loopw [135] (fun v wr => ∃ k : Nat,v = .int .i64 k ∧ k ≤ nl ∧ Sp w [] wr (slPs P ⟨master16,st,mo⟩ Q (boxR P2.s (slCells P2 master16 Q2.last) 90 :: mapNR 34 Row3.agg P2.m Q2.rows :: ledR P2.l P2.d st mo Q2.led :: ringR P2.r P2.d Q2.ring :: numsR (.slice a1 nl cap1) ids :: numsR (.slice a2 nl cap2) ids :: [boxR q #[.bool ib,.string ⟨dr.toArray⟩,.int .u64 st,.int .u64 mo] 58]))) (fun v _ => nl - (intOf v).toNat)
      case atStart => exact ⟨0,rfl,Nat.zero_le _,HS8.out⟩
      case round =>
        clear HS8
        obtain ⟨k,rfl,hk,S⟩:=hrel
        by_cases hlt : k < nl
        · have i1 : (k : Int) < nl:=by omega
          obtain ⟨g1,rfl⟩:=HA1.out (by omega)
          obtain ⟨g2,rfl⟩:=HA2.out (by omega)
          obtain ⟨x,hx⟩ : ∃ x,ids[k]? = some x:=⟨_,List.getElem?_eq_getElem (by rw [HNLI.out]; exact hlt)⟩
          obtain ⟨hx1,e,body,hmay,hl1,hl2⟩:=HIDL.out x (List.mem_of_getElem? hx)
          have HFIT:=Lib.hid (enMay_fit hmay)
          have HRC : Hid (e.rcs.length ≤ 1000):=by have:=(enMay_parts hmay).rcs; unfold Hid; omega
          have HX:=Lib.hid hx
          have HC1 : Hid (∀ (w' : World) (K : List Res),Sp w [] w' (numsR (.slice (some ⟨g1,0,none⟩) nl cap1) ids :: K) → w'.cell? ⟨g1,k,none⟩ = some (.int .u64 x)):=fun w' K h => numCell (by rw [HNLI.out]; exact h) HX.out
          have HC2 : Hid (∀ (w' : World) (K : List Res),Sp w [] w' (numsR (.slice (some ⟨g2,0,none⟩) nl cap2) ids :: K) → w'.cell? ⟨g2,k,none⟩ = some (.int .u64 x)):=fun w' K h => numCell (by rw [HNLI.out]; exact h) HX.out
          have HL1:=Lib.hid (slLoadS x n (by omega) HOK.out (by have:=HNB.out; omega) HE.out S)
          have HL2:=Lib.hid (fun (w' : World) (K : List Res) (S' : Sp w [] w' (slPs P2 ⟨master16,st,mo⟩ Q2 K)) => slLoadS x n (by omega) HOK2.out (by have:=HNB.out; omega) HE.out S')
          rw [hl1] at HL1
          rw [hl2] at HL2
          dsimp only at HL1 HL2
          have hS:=S
          unfold slPs at hS
          have ck1:=HC1.out _ _ ((Sp.pick [_,_,_,_,_,_,_,_,_,_,_,_] [10,0,1,2,3,4,5,6,7,8,9,11] (by decide) (hS)))
          clear S hS hx hmay hl1 hl2
          go_wp2_with fail
          refine HL1.out.mono ?_
          rintro r w14 ⟨vx,rfl,S⟩
          obtain ⟨va,vc,rfl⟩:=S.tosAt.form
          obtain ⟨xi,xd,xe,xc,xf,xr,xb,xn,xt⟩:=e
          unfold enAgg
          dsimp only
          have S5:=S.box #[.int .u64 xi,.string ⟨xd.toArray⟩,.int .u64 xe,.int .u64 xc,.string ⟨xf.1.toArray⟩,.string ⟨xf.2.toArray⟩,.slice va xr.length vc,.int .u64 xb,.int .u64 xn,.int .i64 xt] 40
          unfold slPs at S5
          have S6:=(Sp.pick [_,_,_,_,_,_,_,_,_,_,_,_,_,_] [2,3,4,5,6,7,8,9,10,11,12,13,1,0] (by decide) (S5))
          have HS9:=Lib.hid (HSB.out _ (numsR (.slice (some ⟨g1,0,none⟩) nl cap1) ids :: numsR (.slice (some ⟨g2,0,none⟩) nl cap2) ids :: tosR (.slice va xr.length vc) xr :: boxR w14.heap.size #[.int .u64 xi,.string ⟨xd.toArray⟩,.int .u64 xe,.int .u64 xc,.string ⟨xf.1.toArray⟩,.string ⟨xf.2.toArray⟩,.slice va xr.length vc,.int .u64 xb,.int .u64 xn,.int .i64 xt] 40 :: [boxR q #[.bool ib,.string ⟨dr.toArray⟩,.int .u64 st,.int .u64 mo] 58]) S6)
          clear S S5 S6 HL1 ck1
          go_upto_region 28 with (fail)
          generalize w14.alloc _ = w15 at *
          generalize w14.heap.size = g16 at *
          have h9:=HS9.out
          unfold slPs at h9
          have ck2:=HC1.out _ _ ((Sp.pick [_,_,_,_,_,_,_,_,_,_,_,_,_,_] [10,0,1,2,3,4,5,6,7,8,9,11,12,13] (by decide) (h9)))
          clear h9
          go_wp2_with fail
          refine (HL2.out _ _ HS9.out).mono ?_
          rintro r w16 ⟨vy,rfl,S⟩
          obtain ⟨ya,yc,rfl⟩:=S.tosAt.form
          unfold enAgg
          dsimp only
          have S5:=S.box #[.int .u64 xi,.string ⟨xd.toArray⟩,.int .u64 xe,.int .u64 xc,.string ⟨xf.1.toArray⟩,.string ⟨xf.2.toArray⟩,.slice ya xr.length yc,.int .u64 xb,.int .u64 xn,.int .i64 xt] 40
          unfold slPs at S5
          have HS10:=Lib.hid S5
          clear S S5 HS9 HL2 ck2
          go_upto_region 29 with (fail)
          generalize w16.alloc _ = w17 at *
          generalize w16.heap.size = g19 at *
          have hsame : enSame ⟨xi,xd,xe,xc,xf,xr,xb,xn,xt⟩ ⟨xi,xd,xe,xc,xf,xr,xb,xn,xt⟩ = true:=by simp [enSame]
          have HSM : Hid (∀ (w' : World),Sp w [] w' (boxR g19 #[.int .u64 xi,.string ⟨xd.toArray⟩,.int .u64 xe,.int .u64 xc,.string ⟨xf.1.toArray⟩,.string ⟨xf.2.toArray⟩,.slice ya xr.length yc,.int .u64 xb,.int .u64 xn,.int .i64 xt] 40 :: tosR (.slice ya xr.length yc) xr :: boxR P2.s (slCells P2 master16 Q2.last) 90 :: mapNR 34 Row3.agg P2.m Q2.rows :: diskR P2.d Q2.D :: bxR P2.b Q2.B :: ledR P2.l P2.d st mo Q2.led :: ringR P2.r P2.d Q2.ring :: boxR P.s (slCells P master16 Q.last) 90 :: mapNR 34 Row3.agg P.m Q.rows :: ledR P.l P.d st mo Q.led :: ringR P.r P.d Q.ring :: numsR (.slice (some ⟨g1,0,none⟩) nl cap1) ids :: numsR (.slice (some ⟨g2,0,none⟩) nl cap2) ids :: tosR (.slice va xr.length vc) xr :: boxR g16 #[.int .u64 xi,.string ⟨xd.toArray⟩,.int .u64 xe,.int .u64 xc,.string ⟨xf.1.toArray⟩,.string ⟨xf.2.toArray⟩,.slice va xr.length vc,.int .u64 xb,.int .u64 xn,.int .i64 xt] 40 :: [boxR q #[.bool ib,.string ⟨dr.toArray⟩,.int .u64 st,.int .u64 mo] 58]) → Calls Tryz.prog 31 #[.agg #[.int .u64 xi,.string ⟨xd.toArray⟩,.int .u64 xe,.int .u64 xc,.string ⟨xf.1.toArray⟩,.string ⟨xf.2.toArray⟩,.slice va xr.length vc,.int .u64 xb,.int .u64 xn,.int .i64 xt],.agg #[.int .u64 xi,.string ⟨xd.toArray⟩,.int .u64 xe,.int .u64 xc,.string ⟨xf.1.toArray⟩,.string ⟨xf.2.toArray⟩,.slice ya xr.length yc,.int .u64 xb,.int .u64 xn,.int .i64 xt]] w' fun r w2 => r = .returned (.bool true) ∧ Sp w [] w2 (boxR g19 #[.int .u64 xi,.string ⟨xd.toArray⟩,.int .u64 xe,.int .u64 xc,.string ⟨xf.1.toArray⟩,.string ⟨xf.2.toArray⟩,.slice ya xr.length yc,.int .u64 xb,.int .u64 xn,.int .i64 xt] 40 :: tosR (.slice ya xr.length yc) xr :: boxR P2.s (slCells P2 master16 Q2.last) 90 :: mapNR 34 Row3.agg P2.m Q2.rows :: diskR P2.d Q2.D :: bxR P2.b Q2.B :: ledR P2.l P2.d st mo Q2.led :: ringR P2.r P2.d Q2.ring :: boxR P.s (slCells P master16 Q.last) 90 :: mapNR 34 Row3.agg P.m Q.rows :: ledR P.l P.d st mo Q.led :: ringR P.r P.d Q.ring :: numsR (.slice (some ⟨g1,0,none⟩) nl cap1) ids :: numsR (.slice (some ⟨g2,0,none⟩) nl cap2) ids :: tosR (.slice va xr.length vc) xr :: boxR g16 #[.int .u64 xi,.string ⟨xd.toArray⟩,.int .u64 xe,.int .u64 xc,.string ⟨xf.1.toArray⟩,.string ⟨xf.2.toArray⟩,.slice va xr.length vc,.int .u64 xb,.int .u64 xn,.int .i64 xt] 40 :: [boxR q #[.bool ib,.string ⟨dr.toArray⟩,.int .u64 st,.int .u64 mo] 58])):=fun w' h =>
            (r15Same_any (v:=.slice va xr.length vc) (v2:=.slice ya xr.length yc) ⟨xi,xd,xe,xc,xf,xr,xb,xn,xt⟩ ⟨xi,xd,xe,xc,xf,xr,xb,xn,xt⟩ w' ⟨HFIT.out,((Sp.pick [_,_,_,_,_,_,_,_,_,_,_,_,_,_,_,_,_] [14,0,1,2,3,4,5,6,7,8,9,10,11,12,13,15,16] (by decide) (h))).tosAt⟩ ⟨HFIT.out,((Sp.pick [_,_,_,_,_,_,_,_,_,_,_,_,_,_,_,_,_] [1,0,2,3,4,5,6,7,8,9,10,11,12,13,14,15,16] (by decide) (h))).tosAt⟩).mono (fun r w2 hh => ⟨by rw [hh.1,hsame],h.ext0 hh.2⟩)
          have hbb : (body == body) = true:=by simp
          have HS11 : Hid (Sp w [] w17 (boxR g19 #[.int .u64 xi,.string ⟨xd.toArray⟩,.int .u64 xe,.int .u64 xc,.string ⟨xf.1.toArray⟩,.string ⟨xf.2.toArray⟩,.slice ya xr.length yc,.int .u64 xb,.int .u64 xn,.int .i64 xt] 40 :: tosR (.slice ya xr.length yc) xr :: boxR P2.s (slCells P2 master16 Q2.last) 90 :: mapNR 34 Row3.agg P2.m Q2.rows :: diskR P2.d Q2.D :: bxR P2.b Q2.B :: ledR P2.l P2.d st mo Q2.led :: ringR P2.r P2.d Q2.ring :: boxR P.s (slCells P master16 Q.last) 90 :: mapNR 34 Row3.agg P.m Q.rows :: ledR P.l P.d st mo Q.led :: ringR P.r P.d Q.ring :: numsR (.slice (some ⟨g1,0,none⟩) nl cap1) ids :: numsR (.slice (some ⟨g2,0,none⟩) nl cap2) ids :: tosR (.slice va xr.length vc) xr :: boxR g16 #[.int .u64 xi,.string ⟨xd.toArray⟩,.int .u64 xe,.int .u64 xc,.string ⟨xf.1.toArray⟩,.string ⟨xf.2.toArray⟩,.slice va xr.length vc,.int .u64 xb,.int .u64 xn,.int .i64 xt] 40 :: [boxR q #[.bool ib,.string ⟨dr.toArray⟩,.int .u64 st,.int .u64 mo] 58])):=HS10.out
          clear hsame HS10
          refine wp_region_chainG [0,1,2,3,4,5,6,7,8,9,10,11,12,13,14,15,16,17,18,19,20,21,22,23,24,25,26,27] (fun c => c == 25) (fun c => false) (T:=fun wx => wx.cell? ⟨g1,k,none⟩ = some (.int .u64 x) ∧ wx.cell? ⟨g2,k,none⟩ = some (.int .u64 x) ∧ (∀ o_1,wx.cell? ⟨g16,o_1,none⟩ = (#[.int .u64 xi,.string ⟨xd.toArray⟩,.int .u64 xe,.int .u64 xc,.string ⟨xf.1.toArray⟩,.string ⟨xf.2.toArray⟩,.slice va xr.length vc,.int .u64 xb,.int .u64 xn,.int .i64 xt])[o_1]?) ∧ (∀ o_2,wx.cell? ⟨g19,o_2,none⟩ = (#[.int .u64 xi,.string ⟨xd.toArray⟩,.int .u64 xe,.int .u64 xc,.string ⟨xf.1.toArray⟩,.string ⟨xf.2.toArray⟩,.slice ya xr.length yc,.int .u64 xb,.int .u64 xn,.int .i64 xt])[o_2]?)) (S:=fun wx => Sp w [] wx (boxR g19 #[.int .u64 xi,.string ⟨xd.toArray⟩,.int .u64 xe,.int .u64 xc,.string ⟨xf.1.toArray⟩,.string ⟨xf.2.toArray⟩,.slice ya xr.length yc,.int .u64 xb,.int .u64 xn,.int .i64 xt] 40 :: tosR (.slice ya xr.length yc) xr :: boxR P2.s (slCells P2 master16 Q2.last) 90 :: mapNR 34 Row3.agg P2.m Q2.rows :: diskR P2.d Q2.D :: bxR P2.b Q2.B :: ledR P2.l P2.d st mo Q2.led :: ringR P2.r P2.d Q2.ring :: boxR P.s (slCells P master16 Q.last) 90 :: mapNR 34 Row3.agg P.m Q.rows :: ledR P.l P.d st mo Q.led :: ringR P.r P.d Q.ring :: numsR (.slice (some ⟨g1,0,none⟩) nl cap1) ids :: numsR (.slice (some ⟨g2,0,none⟩) nl cap2) ids :: tosR (.slice va xr.length vc) xr :: boxR g16 #[.int .u64 xi,.string ⟨xd.toArray⟩,.int .u64 xe,.int .u64 xc,.string ⟨xf.1.toArray⟩,.string ⟨xf.2.toArray⟩,.slice va xr.length vc,.int .u64 xb,.int .u64 xn,.int .i64 xt] 40 :: [boxR q #[.bool ib,.string ⟨dr.toArray⟩,.int .u64 st,.int .u64 mo] 58])) (by kernel_rfl) (by kernel_rfl) (by kernel_rfl) HS11.out.drew (fun x h => ⟨HC1.out _ _ ((Sp.pick [_,_,_,_,_,_,_,_,_,_,_,_,_,_,_,_,_] [12,0,1,2,3,4,5,6,7,8,9,10,11,13,14,15,16] (by decide) (h))),HC2.out _ _ ((Sp.pick [_,_,_,_,_,_,_,_,_,_,_,_,_,_,_,_,_] [13,0,1,2,3,4,5,6,7,8,9,10,11,12,14,15,16] (by decide) (h))),((Sp.pick [_,_,_,_,_,_,_,_,_,_,_,_,_,_,_,_,_] [15,0,1,2,3,4,5,6,7,8,9,10,11,12,13,14,16] (by decide) (h))).cell,h.cell⟩) ?_
          repeat
            refine Exists.intro _ (And.intro rfl (Or.inl (Exists.intro ?_ (And.intro (fun wS hS K hK => ?_) (And.intro ?_ ?_)))))
            rotate_left 1
            · obtain ⟨t0,t1,t2,t3⟩:=hS
              first
                | (refine if_unwanted rfl ?_; simp only [Act.put,List.setIfInBounds_toArray,List.set_cons_zero,List.set_cons_succ]; exact hK.out)
                | (refine if_wanted rfl ?_; go_simp; exact hK.out)
            · rfl
          refine ChainG.one rfl rfl rfl (fun wS hS R hR => ?_)
          go_simp
          go_at_call 31
          refine (HSM.out _ hS).mono ?_
          rintro e w7 ⟨rfl,S7⟩
          refine hR.out _ _ rfl (fun wx => wx.cell? ⟨g1,k,none⟩ = some (.int .u64 x) ∧ wx.cell? ⟨g2,k,none⟩ = some (.int .u64 x) ∧ (∀ o_1,wx.cell? ⟨g16,o_1,none⟩ = (#[.int .u64 xi,.string ⟨xd.toArray⟩,.int .u64 xe,.int .u64 xc,.string ⟨xf.1.toArray⟩,.string ⟨xf.2.toArray⟩,.slice va xr.length vc,.int .u64 xb,.int .u64 xn,.int .i64 xt])[o_1]?) ∧ (∀ o_2,wx.cell? ⟨g19,o_2,none⟩ = (#[.int .u64 xi,.string ⟨xd.toArray⟩,.int .u64 xe,.int .u64 xc,.string ⟨xf.1.toArray⟩,.string ⟨xf.2.toArray⟩,.slice ya xr.length yc,.int .u64 xb,.int .u64 xn,.int .i64 xt])[o_2]?)) (fun wx => Sp w [] wx (boxR g19 #[.int .u64 xi,.string ⟨xd.toArray⟩,.int .u64 xe,.int .u64 xc,.string ⟨xf.1.toArray⟩,.string ⟨xf.2.toArray⟩,.slice ya xr.length yc,.int .u64 xb,.int .u64 xn,.int .i64 xt] 40 :: tosR (.slice ya xr.length yc) xr :: boxR P2.s (slCells P2 master16 Q2.last) 90 :: mapNR 34 Row3.agg P2.m Q2.rows :: diskR P2.d Q2.D :: bxR P2.b Q2.B :: ledR P2.l P2.d st mo Q2.led :: ringR P2.r P2.d Q2.ring :: boxR P.s (slCells P master16 Q.last) 90 :: mapNR 34 Row3.agg P.m Q.rows :: ledR P.l P.d st mo Q.led :: ringR P.r P.d Q.ring :: numsR (.slice (some ⟨g1,0,none⟩) nl cap1) ids :: numsR (.slice (some ⟨g2,0,none⟩) nl cap2) ids :: tosR (.slice va xr.length vc) xr :: boxR g16 #[.int .u64 xi,.string ⟨xd.toArray⟩,.int .u64 xe,.int .u64 xc,.string ⟨xf.1.toArray⟩,.string ⟨xf.2.toArray⟩,.slice va xr.length vc,.int .u64 xb,.int .u64 xn,.int .i64 xt] 40 :: [boxR q #[.bool ib,.string ⟨dr.toArray⟩,.int .u64 st,.int .u64 mo] 58])) S7 (fun x h => ⟨HC1.out _ _ ((Sp.pick [_,_,_,_,_,_,_,_,_,_,_,_,_,_,_,_,_] [12,0,1,2,3,4,5,6,7,8,9,10,11,13,14,15,16] (by decide) (h))),HC2.out _ _ ((Sp.pick [_,_,_,_,_,_,_,_,_,_,_,_,_,_,_,_,_] [13,0,1,2,3,4,5,6,7,8,9,10,11,12,14,15,16] (by decide) (h))),((Sp.pick [_,_,_,_,_,_,_,_,_,_,_,_,_,_,_,_,_] [15,0,1,2,3,4,5,6,7,8,9,10,11,12,13,14,16] (by decide) (h))).cell,h.cell⟩) (fun _ h => h) ?_
          clear hR hS S7
          repeat
            refine Exists.intro _ (And.intro rfl (Or.inl (Exists.intro ?_ (And.intro (fun wS hS K hK => ?_) (And.intro ?_ ?_)))))
            rotate_left 1
            · obtain ⟨t0,t1,t2,t3⟩:=hS
              first
                | (refine if_unwanted rfl ?_; simp only [Act.put,List.setIfInBounds_toArray,List.set_cons_zero,List.set_cons_succ]; exact hK.out)
                | (refine if_wanted rfl ?_; go_simp; exact hK.out)
            · rfl
          intro wE hE
          have HSE:=Lib.hid hE
          clear hE
          have HZ:=Lib.hid (HSW.out _ (numsR (.slice (some ⟨g1,0,none⟩) nl cap1) ids :: numsR (.slice (some ⟨g2,0,none⟩) nl cap2) ids :: [boxR q #[.bool ib,.string ⟨dr.toArray⟩,.int .u64 st,.int .u64 mo] 58]) ((Sp.pick [_,_,_,_,_,_,_,_,_,_,_,_,_,_,_,_,_] [2,3,4,5,6,7,8,9,10,11,12,13,16] (by decide) (HSE.out))))
          clear HS11 HSM hbb HSE
          go_wp2_with fail
          go_roundw
          case rel => exact ⟨k + 1,by go_num,by omega,HZ.out⟩
          case measure => (simp [intOf]; try omega)
        · obtain rfl : k = nl:=by omega
          have HS9:=Lib.hid S
          clear S hlt
          go_wp2
          go_ret
          exact ⟨rfl,HS9.out.ext⟩
end
end
end Go.Proofs.YtangbdahnmomlaaGreatDoor
