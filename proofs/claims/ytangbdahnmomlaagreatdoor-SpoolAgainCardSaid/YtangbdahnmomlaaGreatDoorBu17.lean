/- ledger: Counter, Ceiling, Spent, reserve. Conditions: the lengths fit. ledger: Next. Conditions: the lengths fit. ledger: Open. Conditions: the lengths fit. -/
import Derived.BigQuiet
import Derived.Deep.QuietTactic
import Derived.IntWalk
import Derived.Test.YtangbdahnmomlaaGreatDoorBu05
import Derived.Test.YtangbdahnmomlaaGreatDoorBu16
set_option linter.unnecessarySimpa false
set_option linter.unusedSimpArgs false
set_option linter.unusedVariables false
set_option maxHeartbeats 4000000
set_option maxRecDepth 100000
namespace Go.Proofs.YtangbdahnmomlaaGreatDoor
section
open Go.RowKit Go.Maps
open Go.WideMaps (keyOf_string_mk)
abbrev encC (c : Cnt) : Value:=.agg #[.int .u64 c.c,.int .u64 c.ceil]
def lgOf (M : Mp Cnt) (k : Bs) : Cnt:=(M.get k).getD ⟨0,0⟩
def ledB : Bs:=[108,101,100,103,101,114]
abbrev ledR (p d step most : Nat) (M : Mp Cnt) : Res:=Res.ex fun m : Nat => (boxR p #[.pointer (some ⟨d,0,none⟩),.int .u64 step,.int .u64 most,.map (some m)] 135).and (mapR 9 encC m M)
theorem keyStrL (x : Bs) (hx : x.length ≤ maxLen) : keyOf Tryz.prog 9 (.string ⟨x.toArray⟩) = some (.string x):=keyOf_string_mk Tryz.underlying9 (s:=⟨x.toArray⟩) hx
theorem keyedStrL : Keyed Tryz.prog 9:=string_keyed Tryz.underlying9
theorem zeroCnt (w : World) : (zeroValue 139).run Tryz.prog w = .ok (encC ⟨0,0⟩) w:=by kernel_rfl
theorem fieldCnt0 (a b : Int) (w : World) : (Instr.field 139 (.agg #[.int .u64 a,.int .u64 b]) 0).run Tryz.prog w = .ok (.int .u64 a) w:=by
  simp [Instr.field,run_underlying Tryz.underlying139,part,asAgg,go_sem]
theorem getCnt (M : Mp Cnt) (k : Bs) : ((M.get k).map encC).getD (encC ⟨0,0⟩) = .agg #[.int .u64 (lgOf M k).c,.int .u64 (lgOf M k).ceil]:=by unfold lgOf; cases M.get k <;> rfl
section
variable {w0 w : World} {F0 : List Nat} {L : List Res} {p d step most : Nat} {M : Mp Cnt}
theorem ledCounterS (x : Bs) (S : Sp w0 F0 w (ledR p d step most M :: L)) (hx : x.length ≤ maxLen) :
    Calls Tryz.prog 106 #[.pointer (some ⟨p,0,none⟩),.string ⟨x.toArray⟩] w fun e w2 => e = .returned (.int .u64 (lgOf M x).c) ∧ w = w2:=by
  obtain ⟨m,S1⟩:=S.exOpen
  have hl:=((Sp.pick [_,_] [1] (by decide) (S1.part))).map.look (t:=133) keyedStrL Tryz.underlying133 (zeroCnt _) (keyStrL x hx)
  rw [getCnt] at hl
  have c:=S1.part.cell
  generalize lgOf M x = y at *
  obtain ⟨a,b⟩:=y
  clear S S1 hx
  dsimp only at *
  have hf:=fieldCnt0
  go_enter Tryz.func106,Tryz.ntmps106
  go_wp2
  go_ret
  exact ⟨rfl,rfl⟩
theorem ledSpentS (x : Bs) (S : Sp w0 F0 w (ledR p d step most M :: L)) (hx : x.length ≤ maxLen) :
    Calls Tryz.prog 142 #[.pointer (some ⟨p,0,none⟩),.string ⟨x.toArray⟩] w fun e w2 => e = .returned (.bool (decide (most ≤ (lgOf M x).c))) ∧ Sp w0 F0 w2 (ledR p d step most M :: L):=by
  obtain ⟨m,S1⟩:=S.exOpen
  have HS:=Lib.hid S1.part
  have HX:=Lib.hid hx
  clear S S1 hx
  have HC : Hid (∀ {w},Sp w0 F0 w (boxR p #[.pointer (some ⟨d,0,none⟩),.int .u64 step,.int .u64 most,.map (some m)] 135 :: mapR 9 encC m M :: L) → Calls Tryz.prog 106 #[.pointer (some ⟨p,0,none⟩),.string ⟨x.toArray⟩] w fun e w2 => e = .returned (.int .u64 (lgOf M x).c) ∧ Sp w0 F0 w2 (boxR p #[.pointer (some ⟨d,0,none⟩),.int .u64 step,.int .u64 most,.map (some m)] 135 :: mapR 9 encC m M :: L)):=fun {w} S => by
    refine (ledCounterS (p:=p) (d:=d) (step:=step) (most:=most) (M:=M) x (S.glue.exShut m) HX.out).mono ?_
    rintro e w2 ⟨rfl,rfl⟩
    exact ⟨rfl,S⟩
  go_enter Tryz.func142,Tryz.ntmps142
  go_wp2_with fail
  refine wp_region_text (S:=fun wx => Sp w0 F0 wx (boxR p #[.pointer (some ⟨d,0,none⟩),.int .u64 step,.int .u64 most,.map (some m)] 135 :: mapR 9 encC m M :: L) ∧ (∀ o,wx.cell? ⟨p,o,none⟩ = (#[.pointer (some ⟨d,0,none⟩),.int .u64 step,.int .u64 most,.map (some m)])[o]?)) (by kernel_rfl) (by kernel_rfl) ⟨(HS.out).drew,(Sp.pick [_,_] [0] (by decide) ((HS.out).drew)).cell⟩ ?_
  repeat
    refine Exists.intro ?_ (And.intro (fun wS hS K hK => ?_) (And.intro ?_ ?_))
    rotate_left 1
    · obtain ⟨hS1,hS2⟩:=hS
      first
        | (refine if_unwanted rfl ?_; simp only [Act.put,List.setIfInBounds_toArray,List.set_cons_zero,List.set_cons_succ]; exact hK.out _ ⟨hS1,hS2⟩)
        | (refine if_wanted rfl ?_; go_simp; exact hK.out _ ⟨hS1,hS2⟩)
        | (refine if_wanted rfl ?_; go_simp; go_at_call 106; refine (HC.out hS1).mono ?_; rintro e w12 ⟨rfl,S12⟩; exact hK.out _ ⟨S12,(Sp.pick [_,_] [0] (by decide) (S12)).cell⟩)
    · rfl
  intro wE hE
  have HSE:=Lib.hid hE.1
  clear hE
  go_wp2
  go_ret
  exact ⟨ret_bool (by first | rfl | (rw [Bool.eq_iff_iff]; simp)),HSE.out.glue.exShut m⟩
def ledReserve (D : Dk) (key : Bs) (ceil : Nat) : Dk × Int :=
  if (D.append ledB (LRow.text ⟨key,ceil⟩)).2 ≠ 0 then D.append ledB (LRow.text ⟨key,ceil⟩) else (D.append ledB (LRow.text ⟨key,ceil⟩)).1.sync
theorem lrow_length_le (x : LRow) : x.text.length ≤ x.key.length + 27:=by
  unfold LRow.text
  have h1:=textB_length_le (textB x.key ++ numB x.ceil)
  have h2:=textB_length_le x.key
  have h3:=numB_length_le x.ceil
  simp only [List.length_append] at h1
  omega
theorem ledReserveS (x : Bs) (n k : Nat) (D : Dk) (S : Sp w0 F0 w (ledR p d step most M :: diskR d D :: L)) (hx : x.length ≤ 1000000) (hn : n < 18446744073709551616) (hD : D.Roomy k) (hk : k ≤ 800000000) :
    Calls Tryz.prog 143 #[.pointer (some ⟨p,0,none⟩),.string ⟨x.toArray⟩,.int .u64 n] w fun e w2 => e = .returned (.int .i64 (ledReserve D x n).2) ∧ Sp w0 F0 w2 (ledR p d step most M :: diskR d (ledReserve D x n).1 :: L):=by
  obtain ⟨m,S1⟩:=S.exOpen
  have HS:=Lib.hid S1.part
  have HX:=Lib.hid hx
  have HN:=Lib.hid hn
  have HA : Hid (D.Small ∧ (D.append ledB (LRow.text ⟨x,n⟩)).1.Small):=by
    have h1:=hD.append ledB (LRow.text ⟨x,n⟩)
    have h2:=lrow_length_le ⟨x,n⟩
    dsimp only at h2
    exact ⟨hD.small (by omega),h1.small (by omega)⟩
  have HR : Hid (ledReserve D x n = _):=Lib.hid (ledReserve.eq_1 D x n)
  have c0:=S1.part.cell
  clear S S1 hx hn hD hk
  go_enter Tryz.func143,Tryz.ntmps143
  go_wp2_with fail
  go_cut [7] (fun v wx => v = .int .i64 (D.append ledB (LRow.text ⟨x,n⟩)).2 ∧ Sp w0 F0 wx (boxR p #[.pointer (some ⟨d,0,none⟩),.int .u64 step,.int .u64 most,.map (some m)] 135 :: mapR 9 encC m M :: diskR d (D.append ledB (LRow.text ⟨x,n⟩)).1 :: L))
  case first =>
    go_region_with (first | (go_at_call 178; refine (rowTextS ⟨x,n⟩ HS.out.drew HX.out HN.out).mono ?_; rintro e w2 ⟨rfl,S5⟩; have c5:=S5.cell; have HS5:=Lib.hid S5; clear S5) | (go_at_call 78; refine (appendS ledB (LRow.text ⟨x,n⟩) HS5.out.pull2 HA.out.1 (by decide) (by have:=lrow_length_le ⟨x,n⟩; have:=HX.out; dsimp only at *; omega)).mono ?_; rintro e w3 ⟨rfl,S6⟩; have HS6:=Lib.hid (Sp.pick [_,_,_] [1,2,0] (by decide) (S6)); clear S6))
    all_goals
      clear c0 c5
      go_wp2_with fail
      go_meet
      exact ⟨rfl,HS6.out⟩
  case rest =>
    obtain ⟨rfl,S7⟩:=hcut
    have c7:=S7.cell
    have HS7:=Lib.hid S7
    have HA1:=Lib.hid HA.out.2
    clear HS c0 S7 HA
    generalize D.append ledB (LRow.text ⟨x,n⟩) = A at *
    obtain ⟨D1,e1⟩:=A
    dsimp only at *
    by_cases he : e1 = 0
    · subst he
      go_wp2_with (go_at_call 46; refine (syncS HS7.out.pull2 HA1.out).mono ?_; rintro e w6 ⟨rfl,S8⟩; have HS8:=Lib.hid S8; clear S8)
      go_ret
      rw [HR.out,if_neg (by simp)]
      exact ⟨rfl,((Sp.pick [_,_,_] [1,2,0] (by decide) (HS8.out))).glue.exShut m⟩
    · have t1 : (e1 != 0) = true:=by simpa using he
      have HE:=Lib.hid he
      clear he
      go_wp2
      go_ret
      rw [HR.out,if_pos HE.out]
      exact ⟨rfl,HS7.out.glue.exShut m⟩
end
end
section
open Go.RowKit Go.Maps
def ledNextN (D : Dk) (M : Mp Cnt) (step most : Nat) (x : Bs) : Dk × Mp Cnt × Bs × Int :=
  if 300 < x.length then (D,M,[],5)
  else if most ≤ (lgOf M x).c then (D,M,[],21)
  else if (lgOf M x).c = (lgOf M x).ceil then
    if (ledReserve D x (min ((lgOf M x).ceil + step) most)).2 ≠ 0 then ((ledReserve D x (min ((lgOf M x).ceil + step) most)).1,M,[],(ledReserve D x (min ((lgOf M x).ceil + step) most)).2)
    else ((ledReserve D x (min ((lgOf M x).ceil + step) most)).1,M.put x ⟨(lgOf M x).c + 1,min ((lgOf M x).ceil + step) most⟩,nonceB (lgOf M x).c,0)
  else (D,M.put x ⟨(lgOf M x).c + 1,(lgOf M x).ceil⟩,nonceB (lgOf M x).c,0)
def ledOk (M : Mp Cnt) : Prop:=M.length ≤ 1000000 ∧ ∀ p ∈ M,p.2.c ≤ p.2.ceil ∧ p.2.ceil ≤ 1099511627776
theorem ledOk.of {M : Mp Cnt} (h : ledOk M) (x : Bs) : (lgOf M x).c ≤ (lgOf M x).ceil ∧ (lgOf M x).ceil ≤ 1099511627776:=by
  unfold lgOf Mp.get
  cases hf : M.find? fun p => p.1 == x with
  | none => simp
  | some p => exact h.2 p (List.mem_of_find?_eq_some hf)
section
variable {w0 w : World} {F0 : List Nat} {L : List Res} {p d step most : Nat} {M : Mp Cnt}
theorem ledNextNS (x : Bs) (k : Nat) (D : Dk) (S : Sp w0 F0 w (ledR p d step most M :: diskR d D :: L)) (hx : x.length ≤ 1000000) (hM : ledOk M) (hstep : step ≤ 1000) (hmost : most ≤ 1099511627776) (hD : D.Roomy k) (hk : k ≤ 800000000) :
    Calls Tryz.prog 105 #[.pointer (some ⟨p,0,none⟩),.string ⟨x.toArray⟩] w fun e w2 => e = .returned (.tuple #[.string ⟨(ledNextN D M step most x).2.2.1.toArray⟩,.int .i64 (ledNextN D M step most x).2.2.2]) ∧ Sp w0 F0 w2 (ledR p d step most (ledNextN D M step most x).2.1 :: diskR d (ledNextN D M step most x).1 :: L):=by
  have HS:=Lib.hid S
  have HX:=Lib.hid hx
  have HM:=Lib.hid hM
  have HD:=Lib.hid hD
  have HK:=Lib.hid hk
  have hb:=hM.of x
  have hx' : (x.length : Int) ≤ 1000000:=by omega
  have HXM : Hid (x.length ≤ maxLen):=by unfold Hid maxLen; omega
  have HN : Hid (ledNextN D M step most x = _):=Lib.hid (ledNextN.eq_1 D M step most x)
  have HGC:=Lib.hid (getCnt M x)
  generalize hs : lgOf M x = y at *
  have HE:=Lib.hid hs
  clear hs
  obtain ⟨a,b⟩:=y
  dsimp only at *
  obtain ⟨hab,hb40⟩:=hb
  clear S hM hD hk hx
  by_cases h300 : 300 < x.length
  · have h300' : (300 : Int) < x.length:=by omega
    have HV : Hid (ledNextN D M step most x = (D,M,[],5)):=by rw [HN.out,if_pos h300]; trivial
    clear HN h300
    go_enter Tryz.func105,Tryz.ntmps105
    go_wp2
    go_ret2
    rw [HV.out]
    exact ⟨rfl,HS.out⟩
  have h300' : (x.length : Int) ≤ 300:=by omega
  rw [if_neg h300] at HN
  clear h300
  by_cases hsp : most ≤ a
  · have HV : Hid (ledNextN D M step most x = (D,M,[],21)):=by rw [HN.out,if_pos hsp]; trivial
    have tsp : decide (most ≤ a) = true:=by simpa using hsp
    clear HN hsp
    go_enter Tryz.func105,Tryz.ntmps105
    go_wp2_with fail
    refine (ledSpentS x HS.out HXM.out).mono ?_
    rw [HE.out]
    dsimp only
    rw [tsp]
    rintro e w1 ⟨rfl,S1⟩
    have HS1:=Lib.hid S1
    clear S1
    go_wp2
    go_ret2
    rw [HV.out]
    exact ⟨rfl,HS1.out⟩
  rw [if_neg hsp] at HN
  have tsp : decide (most ≤ a) = false:=by simpa using hsp
  have HSP:=Lib.hid hsp
  clear hsp
  go_enter Tryz.func105,Tryz.ntmps105
  go_wp2_with fail
  refine (ledSpentS x HS.out HXM.out).mono ?_
  rw [HE.out]
  dsimp only
  rw [tsp]
  rintro e w1 ⟨rfl,S1⟩
  obtain ⟨m,S2⟩:=S1.exOpen
  have hl:=((Sp.pick [_,_] [1] (by decide) (S2.part))).map.look (t:=133) keyedStrL Tryz.underlying133 (zeroCnt _) (keyStrL x HXM.out)
  rw [HGC.out] at hl
  have c2:=S2.part.cell
  have l2:=S2.part.boxlt
  have HS2:=Lib.hid S2.part
  have HAB : Hid (a ≤ b ∧ b ≤ 1099511627776 ∧ a < most ∧ step ≤ 1000 ∧ most ≤ 1099511627776):=⟨hab,hb40,by have:=HSP.out; omega,hstep,hmost⟩
  have i1 : (a : Int) ≤ 1099511627776:=by omega
  have i2 : (b : Int) ≤ 1099511627776:=by omega
  have i3 : (step : Int) ≤ 1000:=by omega
  have i4 : (most : Int) ≤ 1099511627776:=by omega
  clear S1 S2 HS hab hb40 hstep hmost tsp
  have HFIN : Hid (∀ (m : Nat) (c : Nat) (D2 : Dk) (wz : World),c < 18446744073709551616 → Sp w0 F0 wz (boxR w1.heap.size #[.int .u64 ((a : Int) + 1),.int .u64 c] 139 :: boxR p #[.pointer (some ⟨d,0,none⟩),.int .u64 step,.int .u64 most,.map (some m)] 135 :: mapR 9 encC m M :: diskR d D2 :: L) →
      ∃ w5,(Instr.mapUpdate 133 (.map (some m)) (.string ⟨x.toArray⟩) (.agg #[.int .u64 ((a : Int) + 1),.int .u64 c])).run Tryz.prog wz.drew = .ok () w5 ∧ Sp w0 F0 w5 (ledR p d step most (M.put x ⟨a + 1,c⟩) :: diskR d D2 :: L)):=fun m c D2 wz hc S => by
    obtain ⟨w5,hrun,S5,_⟩:=((Sp.pick [_,_,_,_] [2,1,3] (by decide) (S))).drew.mapPut (t:=133) keyedStrL Tryz.underlying133 (by have:=HM.out.1; unfold maxLen; omega) (keyStrL x HXM.out) ⟨a + 1,c⟩
    exact ⟨w5,hrun,S5.pull1.glue.exShut m⟩
  by_cases hcc : a = b
  · subst hcc
    rw [if_pos rfl] at HN
    have HS3:=Lib.hid (HS2.out.box #[.int .u64 a,.int .u64 a] 139)
    have em : min ((a : Int) + step) (most : Int) = ((min (a + step) most : Nat) : Int):=by omega
    have ew : IntKind.u64.wrap ((a : Int) + step) = (a : Int) + step:=by rw [IntKind.wrap_u64]; omega
    have HC18 : Hid (min (a + step) most < 18446744073709551616):=by unfold Hid; omega
    have tcc : ((a : Int) == (a : Int)) = true:=by simp
    go_upto_region 7 with (fail)
    generalize w1.alloc (.cells #[.int .u64 a,.int .u64 a] 139) = w3 at *
    generalize w1.heap.size = q3 at *
    clear c2 l2 hl
    refine wp_region_text (S:=fun wx => Sp w0 F0 wx (boxR q3 #[.int .u64 a,.int .u64 a] 139 :: boxR p #[.pointer (some ⟨d,0,none⟩),.int .u64 step,.int .u64 most,.map (some m)] 135 :: mapR 9 encC m M :: diskR d D :: L) ∧ (∀ o,wx.cell? ⟨q3,o,none⟩ = (#[.int .u64 a,.int .u64 a])[o]?) ∧ (∀ o,wx.cell? ⟨p,o,none⟩ = (#[.pointer (some ⟨d,0,none⟩),.int .u64 step,.int .u64 most,.map (some m)])[o]?)) (by kernel_rfl) (by kernel_rfl) ⟨(HS3.out).drew,(Sp.pick [_,_,_,_] [0] (by decide) ((HS3.out).drew)).cell,(Sp.pick [_,_,_,_] [1] (by decide) ((HS3.out).drew)).cell⟩ ?_
    repeat
      refine Exists.intro ?_ (And.intro (fun wS hS K hK => ?_) (And.intro ?_ ?_))
      rotate_left 1
      · obtain ⟨hS1,hS2,hS3⟩:=hS
        first
          | (refine if_unwanted rfl ?_; simp only [Act.put,List.setIfInBounds_toArray,List.set_cons_zero,List.set_cons_succ]; exact hK.out _ ⟨hS1,hS2,hS3⟩)
          | (refine if_wanted rfl ?_; go_simp; exact hK.out _ ⟨hS1,hS2,hS3⟩)
      · rfl
    intro wE hE
    have HSE:=Lib.hid hE.1
    clear hE
    have HS4:=Lib.hid (((Sp.pick [_,_,_,_] [1,2,3,0] (by decide) (HSE.out))).glue.exShut (f:=fun m : Nat => (boxR p #[.pointer (some ⟨d,0,none⟩),.int .u64 step,.int .u64 most,.map (some m)] 135).and (mapR 9 encC m M)) m)
    clear HSE HS3 HS2 ew
    go_wp2_with fail
    first | rw [em] | skip
    refine (ledReserveS x (min (a + step) most) k D HS4.out HX.out HC18.out HD.out HK.out).mono ?_
    generalize min (a + step) most = c at *
    generalize ledReserve D x c = R at *
    obtain ⟨D2,ec⟩:=R
    dsimp only at *
    rintro e w4 ⟨rfl,S⟩
    clear HS4 em
    by_cases he : ec = 0
    · subst he
      rw [if_neg (by simp)] at HN
      obtain ⟨m2,S5⟩:=S.exOpen
      have S6:=(Sp.pick [_,_,_,_] [3,0,1,2] (by decide) (S5.part))
      have c6:=S6.cell
      have f6:=S6.free
      have p6:=S6.pull1.cell
      have S7:=(S6.set (o:=1) (.int .u64 c)).set (o:=0) (.int .u64 ((a : Int) + 1))
      have p7:=S7.pull1.cell
      obtain ⟨w5,hrun,S8⟩:=HFIN.out m2 c D2 _ HC18.out S7
      have HS8:=Lib.hid S8
      have c7:=S7.cell
      have HC7:=Lib.hid c7
      have HP7:=Lib.hid p7
      have HRUN:=Lib.hid hrun
      clear S S5 S6 S7 S8 HFIN c7 p7 hrun
      go_wp2_with fail
      clear c6 f6 p6
      generalize (w4.setCell ⟨q3,1,none⟩ (.int .u64 c)).setCell ⟨q3,0,none⟩ (.int .u64 ((a : Int) + 1)) = wz at *
      have c7 : ∀ o,wz.cell? ⟨q3,o,none⟩ = #[.int .u64 ((a : Int) + 1),.int .u64 c][o]?:=HC7.out
      have p7:=HP7.out
      have hrun:=HRUN.out
      clear HC7 HP7 HRUN
      go_region
      all_goals
        clear hrun c7 p7
        go_wp2_with (go_at_call 144; refine (nonceS a HS8.out (by have:=HAB.out; omega)).mono ?_; rintro e w6 ⟨rfl,S6⟩; have HS6:=Lib.hid S6; clear S6)
        go_ret2
        rw [HN.out]
        exact ⟨rfl,(Sp.pick [_,_] [0,1] (by decide) (HS6.out))⟩
    · have t1 : (ec != 0) = true:=by simpa using he
      have HE2:=Lib.hid he
      have HS5:=Lib.hid S
      clear he S
      rw [if_pos HE2.out] at HN
      go_wp2
      go_ret2
      rw [HN.out]
      exact ⟨rfl,(Sp.pick [_,_,_] [0,1] (by decide) (HS5.out))⟩
  · have tcc : ((a : Int) == (b : Int)) = false:=by simp; omega
    rw [if_neg hcc] at HN
    have S3:=HS2.out.box #[.int .u64 ((a : Int) + 1),.int .u64 b] 139
    have c3:=S3.cell
    obtain ⟨w5,hrun,S5⟩:=HFIN.out m b D _ (by have:=HAB.out; omega) S3
    have HS5:=Lib.hid S5
    clear hcc S3 S5 HFIN
    go_wp2_with fail
    go_region
    all_goals
      clear hrun hl c2 c3
      go_wp2_with (go_at_call 144; refine (nonceS a HS5.out (by have:=HAB.out; omega)).mono ?_; rintro e w6 ⟨rfl,S6⟩; have HS6:=Lib.hid S6; clear S6)
      go_ret2
      rw [HN.out]
      exact ⟨rfl,HS6.out⟩
end
end
section
open Go.RowKit Go.Maps
def ledPuts (l : List LRow) : Mp Cnt:=l.foldl (fun M p => M.put p.key ⟨p.ceil,p.ceil⟩) []
def ledFile (D : Dk) : Bs:=(D.now.get ledB).getD []
def ledOpen (D : Dk) : Dk × Option (Mp Cnt) × Int :=
  if D.now.has ledB = true ∧ ledRest (ledFile D) = [] then (D,some (ledPuts (ledRows (ledFile D))),0)
  else if (D.write ledB ((ledFile D).take ((ledFile D).length - (ledRest (ledFile D)).length))).2 ≠ 0 then ((D.write ledB ((ledFile D).take ((ledFile D).length - (ledRest (ledFile D)).length))).1,none,(D.write ledB ((ledFile D).take ((ledFile D).length - (ledRest (ledFile D)).length))).2)
  else if (D.write ledB ((ledFile D).take ((ledFile D).length - (ledRest (ledFile D)).length))).1.sync.2 ≠ 0 then ((D.write ledB ((ledFile D).take ((ledFile D).length - (ledRest (ledFile D)).length))).1.sync.1,none,(D.write ledB ((ledFile D).take ((ledFile D).length - (ledRest (ledFile D)).length))).1.sync.2)
  else ((D.write ledB ((ledFile D).take ((ledFile D).length - (ledRest (ledFile D)).length))).1.sync.1,some (ledPuts (ledRows (ledFile D))),0)
def LedPost (w0 : World) (F0 : List Nat) (L : List Res) (d step most : Nat) (R : Dk × Option (Mp Cnt) × Int) (e : Ending) (w2 : World) : Prop :=
  match R.2.1 with
  | none => e = .returned (.tuple #[.pointer none,.int .i64 R.2.2]) ∧ Sp w0 F0 w2 (diskR d R.1 :: L)
  | some M => ∃ p,e = .returned (.tuple #[.pointer (some ⟨p,0,none⟩),.int .i64 R.2.2]) ∧ Sp w0 F0 w2 (ledR p d step most M :: diskR d R.1 :: L)
theorem ledPuts_snoc (l : List LRow) (x : LRow) : ledPuts (l ++ [x]) = (ledPuts l).put x.key ⟨x.ceil,x.ceil⟩:=by simp [ledPuts]
theorem ledPuts_length (l : List LRow) : (ledPuts l).length ≤ l.length:=by
  have : ∀ (l : List LRow) (M : Mp Cnt),(l.foldl (fun M p => M.put p.key ⟨p.ceil,p.ceil⟩) M).length ≤ M.length + l.length:=by
    intro l
    induction l with
    | nil => intro M; simp
    | cons x l ih =>
      intro M
      have h1:=ih (M.put x.key ⟨x.ceil,x.ceil⟩)
      have h2:=Mp.length_put_le M x.key (⟨x.ceil,x.ceil⟩ : Cnt)
      simp only [List.foldl_cons,List.length_cons]
      omega
  have:=this l []
  simpa [ledPuts] using this
theorem ledScan_len : ∀ (f : Nat) (s : Bs),(ledScan f s).2.length + (ledScan f s).1.length ≤ s.length ∧ ∀ x ∈ (ledScan f s).1,lrowOk x
  | 0,s => by simp [ledScan]
  | f + 1,s => by
    rw [ledScan]
    split
    · rename_i h
      obtain ⟨_,_,h2,h3⟩:=rowNext_spec h
      have ih:=ledScan_len f (rowNext ⟨s,false⟩).2.2.s
      refine ⟨by simp only [List.length_cons]; omega,fun x hx => ?_⟩
      rcases List.mem_cons.1 hx with rfl | hx
      · exact h3
      · exact ih.2 x hx
    · simp
section
variable {w0 w : World} {F0 : List Nat} {L : List Res} {d : Nat}
theorem ledOpen_arg (step most : Nat) (S : Sp w0 F0 w L) (h : step < 1 ∨ 1000 < step ∨ 1099511627776 < most) : Calls Tryz.prog 34 #[.pointer (some ⟨d,0,none⟩),.int .u64 step,.int .u64 most] w fun e w2 => e = .returned (.tuple #[.pointer none,.int .i64 1]) ∧ Sp w0 F0 w2 L:=by
  have HS:=Lib.hid S
  clear S
  by_cases h1 : step < 1
  · go_enter Tryz.func34,Tryz.ntmps34
    go_wp2
    go_ret2
    exact ⟨rfl,HS.out⟩
  · by_cases h2 : 1000 < step
    · have h1' : (1 : Int) ≤ step:=by omega
      have h2' : (1000 : Int) < step:=by omega
      clear h h1 h2
      go_enter Tryz.func34,Tryz.ntmps34
      go_wp2
      all_goals (go_ret2; exact ⟨rfl,HS.out⟩)
    · have h3 : (1099511627776 : Int) < most:=by omega
      have h1' : (1 : Int) ≤ step:=by omega
      have h2' : (step : Int) ≤ 1000:=by omega
      clear h h1 h2
      go_enter Tryz.func34,Tryz.ntmps34
      go_wp2
      all_goals (go_ret2; exact ⟨rfl,HS.out⟩)
theorem ledOpenS (step most k : Nat) (D : Dk) (S : Sp w0 F0 w (diskR d D :: L)) (h1 : 1 ≤ step) (h2 : step ≤ 1000) (h3 : most ≤ 1099511627776) (hD : D.Roomy k) (hk : k ≤ 400000000) :
    Calls Tryz.prog 34 #[.pointer (some ⟨d,0,none⟩),.int .u64 step,.int .u64 most] w fun e w2 => LedPost w0 F0 L d step most (ledOpen D) e w2:=by
  have HO : Hid (ledOpen D = _):=Lib.hid (ledOpen.eq_1 D)
  have HF : Hid (ledFile D = (D.now.get ledB).getD []):=rfl
  have hl : (ledFile D).length ≤ k:=hD.file ledB
  have HL : Hid ((ledFile D).length ≤ 400000000):=Nat.le_trans hl hk
  have HW : Hid (D.Small ∧ ∀ x : Bs,x.length ≤ 400000000 → (D.write ledB x).1.Small) :=
    ⟨hD.small (by omega),fun x hx => (hD.write ledB x).small (by omega)⟩
  have HS:=Lib.hid S
  have i1 : (1 : Int) ≤ step:=by omega
  have i2 : (step : Int) ≤ 1000:=by omega
  have i3 : (most : Int) ≤ 1099511627776:=by omega
  have hmm:=@run_makeMap Tryz.prog
  clear S hD hk hl h1 h2 h3
  go_enter Tryz.func34,Tryz.ntmps34
  go_wp2_with fail
  refine (readS ledB HS.out (by decide)).mono ?_
  rw [← HF.out]
  rintro e w2 ⟨rfl,rfl⟩
  generalize ledFile D = s at *
  obtain ⟨ec,hec⟩ : ∃ c : Int,(if D.now.has ledB then 0 else 10) = c:=⟨_,rfl⟩
  rw [hec]
  have HEC : Hid ((D.now.has ledB = true ∧ ec = 0) ∨ (D.now.has ledB = false ∧ ec = 10)):=by
    cases hh : D.now.has ledB <;> simp [hh] at hec <;> simp [hec.symm,Hid]
  clear hec
  go_wp2_with fail
  refine (ledRowsS s HS.out (by have:=HL.out; omega)).mono ?_
  rintro e w3 ⟨rv,rfl,S3⟩
  have hrl:=ledScan_len (s.length + 1) s
  have HRL : Hid ((ledRest s).length + (ledRows s).length ≤ s.length):=hrl.1
  have HOKR : Hid (∀ x ∈ ledRows s,lrowOk x):=hrl.2
  have hr1 : ((ledRest s).length : Int) ≤ s.length:=by have:=hrl.1; unfold ledRest; omega
  have hs4 : (s.length : Int) ≤ 400000000:=by have:=HL.out; omega
  generalize ledRows s = rows at *
  generalize ledRest s = rest at *
  have HS3:=Lib.hid S3
  clear S3 HS hrl
  obtain ⟨bad,hbad⟩ : ∃ bad : Bool,bad = !decide (D.now.has ledB = true ∧ rest = []):=⟨_,rfl⟩
  go_upto_region 5 with (fail)
  go_cut [48] (fun v wx => v = .bool bad ∧ Sp w0 F0 wx (lrowsR rv rows :: diskR d D :: L))
  case first =>
    rcases HEC.out with ⟨hh,rfl⟩ | ⟨hh,rfl⟩
    · by_cases hrest : rest = []
      · have hb0 : bad = false:=by rw [hbad,hh,hrest]; rfl
        have hge : ¬ ((s.length : Int) - (rest.length : Int) < s.length):=by rw [hrest]; simp
        clear hrest
        go_wp2_with fail
        go_meet
        exact ⟨by rw [hb0],HS3.out⟩
      · have hb0 : bad = true:=by rw [hbad]; simp [hrest]
        have hlt : ((s.length : Int) - (rest.length : Int) < s.length):=by have:=List.length_pos_iff.2 hrest; omega
        clear hrest
        go_wp2_with fail
        go_meet
        exact ⟨by rw [hb0],HS3.out⟩
    · have hb0 : bad = true:=by rw [hbad,hh]; simp
      go_wp2_with fail
      go_meet
      exact ⟨by rw [hb0],HS3.out⟩
  case rest =>
    obtain ⟨rfl,S4⟩:=hcut
    have HS4:=Lib.hid S4
    clear S4 HS3
    have HC:=Lib.hid (cut_head s (s.length - rest.length))
    have HWL : Hid ((s.take (s.length - rest.length)).length ≤ 400000000):=by have:=HL.out; rw [List.length_take]; unfold Hid; omega
    go_upto_if 48 with (fail)
    go_cut [] (fun wx => ∃ D2,ledOpen D = (D2,some (ledPuts rows),0) ∧ Sp w0 F0 wx (lrowsR rv rows :: diskR d D2 :: L))
    case first =>
      cases bad with
      | false =>
        have hgood : D.now.has ledB = true ∧ rest = []:=by
          by_cases h : D.now.has ledB = true ∧ rest = []
          · exact h
          · rw [decide_eq_false h] at hbad; cases hbad
        have HV : Hid (ledOpen D = (D,some (ledPuts rows),0)):=by rw [HO.out,if_pos hgood]; trivial
        clear hbad hgood hr1
        go_wp2_with fail
        go_meet
        exact ⟨D,HV.out,HS4.out⟩
      | true =>
        have hno : ¬ (D.now.has ledB = true ∧ rest = []):=fun h => by rw [decide_eq_true h] at hbad; cases hbad
        rw [if_neg hno] at HO
        clear hno hbad
        go_wp2_with fail
        rw [HC.out]
        refine (writeS ledB _ HS4.out.pull1 HW.out.1 (by decide) (by have:=HWL.out; omega)).mono ?_
        have HW1:=Lib.hid (HW.out.2 _ HWL.out)
        generalize D.write ledB (s.take (s.length - rest.length)) = A at *
        obtain ⟨D1,e1⟩:=A
        dsimp only at *
        rintro e w5 ⟨rfl,S6⟩
        have HS6:=Lib.hid S6
        clear S6 HS4
        by_cases he1 : e1 = 0
        · subst he1
          rw [if_neg (by simp)] at HO
          go_wp2_with fail
          refine (syncS HS6.out HW1.out).mono ?_
          generalize D1.sync = B at *
          obtain ⟨D2,e2⟩:=B
          dsimp only at *
          rintro e w6 ⟨rfl,S7⟩
          have HS7:=Lib.hid S7
          clear S7 HS6
          by_cases he2 : e2 = 0
          · subst he2
            rw [if_neg (by simp)] at HO
            go_wp2_with fail
            go_meet
            exact ⟨D2,HO.out,HS7.out.pull1⟩
          · have t2 : (e2 != 0) = true:=by simpa using he2
            have HV : Hid (ledOpen D = (D2,none,e2)):=by rw [HO.out,if_pos he2]; trivial
            clear he2 HO
            go_wp2
            go_ret2
            rw [HV.out]
            exact ⟨rfl,(Sp.pick [_,_] [0] (by decide) (HS7.out))⟩
        · have t1 : (e1 != 0) = true:=by simpa using he1
          have HV : Hid (ledOpen D = (D1,none,e1)):=by rw [HO.out,if_pos he1]; trivial
          clear he1 HO
          go_wp2
          go_ret2
          rw [HV.out]
          exact ⟨rfl,(Sp.pick [_,_] [0] (by decide) (HS6.out))⟩
    case rest =>
      obtain ⟨D2,hV,S5⟩:=hcut
      have HV:=Lib.hid hV
      have HS5:=Lib.hid S5
      obtain ⟨ra,rcap,rfl⟩ : ∃ a cap,rv = .slice a rows.length cap:=by
        rcases S5.rowForm with ⟨rfl,h0⟩ | ⟨g,cap,rfl⟩
        · exact ⟨none,0,by rw [h0]⟩
        · exact ⟨_,_,rfl⟩
      have HROW : Hid (∀ {wz : World} {i : Nat} {x : LRow} {K : List Res},Sp w0 F0 wz (lrowsR (.slice ra rows.length rcap) rows :: K) → rows[i]? = some x → ∃ g,ra = some ⟨g,0,none⟩ ∧ wz.cell? ⟨g,i * 2,none⟩ = some (.string ⟨x.key.toArray⟩) ∧ wz.cell? ⟨g,i * 2 + 1,none⟩ = some (.int .u64 x.ceil)):=fun {wz i x K} S hx => by
        rcases S.rowForm with ⟨h,h0⟩ | ⟨g,cap,h⟩
        · have : rows = []:=List.eq_nil_of_length_eq_zero h0
          rw [this] at hx
          cases hx
        · simp only [Value.slice.injEq,true_and] at h
          obtain ⟨rfl,rfl⟩:=h
          have hm : (rows.map LRow.vals)[i]? = some x.vals:=by simp [hx]
          have hl2 : ∀ y ∈ rows.map LRow.vals,y.length = 2:=by
            intro y hy
            obtain ⟨z,_,rfl⟩:=List.mem_map.1 hy
            rfl
          exact ⟨g,rfl,S.rowCell hl2 hm (j:=0) rfl,S.rowCell hl2 hm (j:=1) rfl⟩
      have hrn : (rows.length : Int) ≤ 400000000:=by have:=HRL.out; have:=HL.out; omega
      clear hV S5 HS4 HO hbad
      go_wp2_with fail
      have S6:=(HS5.out.mapMade 9 encC).box #[.pointer (some ⟨d,0,none⟩),.int .u64 step,.int .u64 most,.map (some wc.heap.size)] 135
      simp only [World.size_alloc] at S6
      have HS6:=Lib.hid S6
      clear S6 HS5 hmm
      generalize (wc.alloc (.map #[] 0)).alloc (.cells #[.pointer (some ⟨d,0,none⟩),.int .u64 step,.int .u64 most,.map (some wc.heap.size)] 135) = w6 at *
      generalize wc.heap.size + 1 = p at *
      generalize wc.heap.size = m at *
      go_loopw [70] (fun v wr => ∃ j : Nat,v = .int .i64 j ∧ j ≤ rows.length ∧ Sp w0 F0 wr (boxR p #[.pointer (some ⟨d,0,none⟩),.int .u64 step,.int .u64 most,.map (some m)] 135 :: mapR 9 encC m (ledPuts (rows.take j)) :: lrowsR (.slice ra rows.length rcap) rows :: diskR d D2 :: L)) (fun v _ => rows.length - (intOf v).toNat)
      case atStart => exact ⟨0,rfl,by omega,HS6.out⟩
      case round =>
        obtain ⟨j,rfl,hj,S7⟩:=hrel
        have HS7:=Lib.hid S7
        clear S7 HS6
        by_cases hlt : j < rows.length
        · have hlt' : (j : Int) < rows.length:=by omega
          obtain ⟨x,hx⟩ : ∃ x,rows[j]? = some x:=⟨_,List.getElem?_eq_getElem hlt⟩
          obtain ⟨g,rfl,c0,c1⟩:=HROW.out ((Sp.pick [_,_,_] [2,0,1] (by decide) (HS7.out))) hx
          have HTK : Hid (rows.take (j + 1) = rows.take j ++ [x]):=by
            obtain ⟨_,h⟩:=List.getElem?_eq_some_iff.1 hx
            unfold Hid
            rw [List.take_succ_eq_append_getElem hlt,h]
          obtain ⟨key,ceil⟩:=x
          dsimp only at *
          have hkl : key.length ≤ maxLen:=by
            have:=(HOKR.out _ (List.mem_of_getElem? hx)).1
            unfold maxLen
            dsimp only at this
            omega
          have S8:=HS7.out.box #[.string ⟨key.toArray⟩,.int .u64 ceil] 137
          have c8:=S8.cell
          have p8:=S8.pull1.cell
          obtain ⟨w9,hrun,S9,_⟩:=((Sp.pick [_,_,_,_,_] [2,1,3,4] (by decide) (S8))).drew.mapPut (t:=133) keyedStrL Tryz.underlying133 (by have:=ledPuts_length (rows.take j); have:=HRL.out; have:=HL.out; rw [List.length_take] at *; unfold maxLen; omega) (keyStrL key hkl) ⟨ceil,ceil⟩
          rw [← ledPuts_snoc (rows.take j) ⟨key,ceil⟩,← HTK.out] at S9
          have HS9:=Lib.hid S9.pull1
          have HRUN:=Lib.hid hrun
          have HC8:=Lib.hid c8
          have HP8:=Lib.hid p8
          clear hx S8 S9 hrun c8 p8 hkl HS7
          go_wp2_with fail
          clear c0 c1
          generalize wr.alloc (.cells #[.string ⟨key.toArray⟩,.int .u64 ceil] 137) = wz at *
          generalize wr.heap.size = q at *
          have c8:=HC8.out
          have p8:=HP8.out
          have hrun:=HRUN.out
          clear HC8 HP8 HRUN
          go_region
          all_goals
            clear hrun c8 p8
            go_wp2_with fail
            go_roundw
            case rel => exact ⟨j + 1,by go_num,by omega,HS9.out⟩
            case measure => simp [intOf]; omega
        · have ht : rows.take j = rows:=List.take_of_length_le (by omega)
          have HT:=Lib.hid ht
          clear ht
          go_wp2
          go_ret2
          rw [HV.out]
          rw [HT.out] at HS7
          exact ⟨p,rfl,((Sp.pick [_,_,_,_] [0,1,3] (by decide) (HS7.out))).glue.exShut m⟩
end
end
end Go.Proofs.YtangbdahnmomlaaGreatDoor
