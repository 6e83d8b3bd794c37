/- entry: a file's name. Conditions: the lengths fit; what Go's variables hold. The document's answer for layer 15: whether entries are the same. Conditions: the lengths fit. -/
import Derived.Test.YtangbdahnmomlaaGreatDoorBu04
import Derived.Test.YtangbdahnmomlaaGreatDoorBu21
set_option linter.unnecessarySimpa false
set_option linter.unusedSimpArgs false
set_option linter.unusedVariables false
set_option maxHeartbeats 8000000
set_option maxRecDepth 100000
namespace Go.Proofs.YtangbdahnmomlaaGreatDoor
section
open Go.RowKit Go.Maps
theorem nDig_le9 {n k : Nat} (hk : 1 ≤ k) (h : n < 10 ^ k) : Lib.nDigits n ≤ k:=by
  induction k generalizing n with
  | zero => omega
  | succ k ih =>
    by_cases h10 : n < 10
    · rw [Lib.nDigits_small h10]; omega
    · rw [Lib.nDigits_big h10]
      have hk1 : 1 ≤ k:=by
        rcases Nat.eq_zero_or_pos k with rfl | h0
        · simp at h; omega
        · exact h0
      have:=ih hk1 (n:=n / 10) (by rw [Nat.pow_succ] at h; omega)
      omega
theorem dec_len9 (n : Nat) (h : n < 18446744073709551616) : (Lib.decDigits n).length ≤ 1000:=by
  rw [Lib.decDigits_length]
  exact Nat.le_trans (nDig_le9 (k:=20) (by decide) (by omega)) (by decide)
section
variable {w0 w : World} {L : List Res} {v : Value}
theorem name_join (a b c : Bs) : [113,47] ++ Lib.join [a,b,c] [46] = [113,47] ++ a ++ [46] ++ b ++ [46] ++ c:=by
  simp [Lib.join]
theorem join3_len {a b c : Bs} (h1 : a.length ≤ 1000) (h2 : b.length ≤ 1000) (h3 : c.length ≤ 1000) : (Lib.join [a,b,c] [46]).length ≤ 4000:=by
  have:=congrArg List.length (name_join a b c)
  simp at this
  omega
theorem enNameS (e : En) (E : Env w0) (hf : e.Fit) (S : Sp w0 [] w L) : Calls Tryz.prog 33 #[enAgg e v] w fun r w2 => r = .returned (.string ⟨(enName e).toArray⟩) ∧ Sp w0 [] w2 L:=by
  have HS0:=Lib.hid (S.box (enCells e v) 40)
  have HE:=Lib.hid E
  obtain ⟨id,dom,ep,cnt,frm,rcs,born,nxt,tries⟩:=e
  have h1 : id < 18446744073709551616:=hf.id
  have h2 : ep < 18446744073709551616:=hf.ep
  have h3 : cnt < 18446744073709551616:=hf.cnt
  have HF1:=Lib.hid (fun (w' : World) (L' : List Res) (S' : Sp w0 [] w' L') => formatUint id h1 w' (E.sp S'))
  have HF2:=Lib.hid (fun (w' : World) (L' : List Res) (S' : Sp w0 [] w' L') => formatUint ep h2 w' (E.sp S'))
  have HF3:=Lib.hid (fun (w' : World) (L' : List Res) (S' : Sp w0 [] w' L') => formatUint cnt h3 w' (E.sp S'))
  have HD1:=Lib.hid (dec_len9 id h1)
  have HD2:=Lib.hid (dec_len9 ep h2)
  have HD3:=Lib.hid (dec_len9 cnt h3)
  have HV : Hid (enName ⟨id,dom,ep,cnt,frm,rcs,born,nxt,tries⟩ = [113,47] ++ Lib.decDigits id ++ [46] ++ Lib.decDigits ep ++ [46] ++ Lib.decDigits cnt):=rfl
  unfold enCells at HS0
  unfold enAgg
  dsimp only at *
  clear S E hf h1 h2 h3
  go_enter Tryz.func33,Tryz.ntmps33
  go_upto_region 1 with (fail)
  generalize w.alloc (.cells #[.int .u64 id,.string ⟨dom.toArray⟩,.int .u64 ep,.int .u64 cnt,.string ⟨frm.1.toArray⟩,.string ⟨frm.2.toArray⟩,v,.int .u64 born,.int .u64 nxt,.int .i64 tries] 40) = w1 at *
  generalize w.heap.size = q6 at *
  have c1:=HS0.out.cell
  generalize Lib.decDigits id = d1 at *
  generalize Lib.decDigits ep = d2 at *
  generalize Lib.decDigits cnt = d3 at *
  go_wp2_with fail
  go_loopw [3,13] (fun v3 at0 wr => ∃ (k : Nat),at0 = .int .i64 k ∧ k ≤ 3 ∧ Sp w0 [] wr (textsR v3 ([d1,d2,d3].take k) :: L)) (fun _ at0 _ => 3 - (intOf at0).toNat)
  case atStart => exact ⟨0,rfl,Nat.zero_le _,HS0.out.drop.textsNil⟩
  case round =>
    obtain ⟨k,rfl,hk,S1⟩:=hrel
    have HS1:=Lib.hid S1
    clear S1
    by_cases h0 : k = 3
    · subst h0
      obtain ⟨g,cap,rfl⟩ : ∃ g cap,u3 = .slice (some ⟨g,0,none⟩) 3 cap:=by
        rcases HS1.out.rowForm with ⟨_,h⟩ | h
        · simp at h
        · exact h
      have hg:=HS1.out.row.lt g (by rfl)
      have hcap : 3 ≤ cap:=by
        rcases HS1.out.row.2 with ⟨h,_⟩ | ⟨g',cap',cur,h1,_,_,h4,_⟩
        · cases h
        · cases h1; exact h4
      have HJ:=Lib.hid (Tryz.strings_Join g 0 cap [⟨d1.toArray⟩,⟨d2.toArray⟩,⟨d3.toArray⟩] ⟨#[46]⟩ wr (fun j x hx => by
          have h:=HS1.out.row.cells (g:=g) rfl j (.string x) (by
            match j,hx with
            | 0,hx => cases hx; rfl
            | 1,hx => cases hx; rfl
            | 2,hx => cases hx; rfl)
          have hadd : (⟨g,0,none⟩ : Addr).add j = ⟨g,0 + j,none⟩:=by unfold Addr.add; split <;> simp_all
          rw [hadd] at h
          exact h) hg.2 (by simp) hcap (by have:=join3_len HD1.out HD2.out HD3.out; show (Lib.join [d1,d2,d3] [46]).length ≤ _; omega))
      have HLN : Hid ((Lib.join [d1,d2,d3] [46]).length ≤ 4000):=join3_len HD1.out HD2.out HD3.out
      have HJV : Hid ([113,47] ++ Lib.join [d1,d2,d3] [46] = enName ⟨id,dom,ep,cnt,frm,rcs,born,nxt,tries⟩):=by unfold Hid; rw [HV.out,name_join]
      have HJ2 : Hid (Calls Tryz.prog 58 #[.slice (some ⟨g,0,none⟩) 3 cap,.string ⟨#[46]⟩] wr fun e w' => e = .returned (.string ⟨(Lib.join [d1,d2,d3] [46]).toArray⟩) ∧ Below wr.heap.size wr w'):=HJ.out
      generalize Lib.join [d1,d2,d3] [46] = jj at *
      have hadd:=add_str [113,47] jj (by have:=HLN.out; unfold maxLen; simp; omega)
      clear hg hcap HJ
      go_wp2_with fail
      refine HJ2.out.mono ?_
      rintro r w2 ⟨rfl,hb⟩
      have HSB:=Lib.hid (HS1.out.drop.ext0 (Ext.of_below hb))
      clear hb
      go_wp2
      go_ret
      exact ⟨by rw [← HJV.out]; rfl,HSB.out⟩
    · rcases (by omega : k = 0 ∨ k = 1 ∨ k = 2) with rfl | rfl | rfl
      · have hi : ∀ W,(Instr.index 125 (.agg #[.int .u64 id,.int .u64 ep,.int .u64 cnt]) (.int .i64 0)).run Tryz.prog W = .ok (.int .u64 id) W:=fun W => idx3 _ _ _ 0 (by omega) W
        go_wp2_with fail
        refine (HF1.out _ _ HS1.out).mono ?_
        rintro r w2 ⟨rfl,hg⟩
        obtain ⟨g2,cap2,w6,hrun,S6⟩:=Sp.appendText 23 d1 (by simp) ((HS1.out.ext0 hg.ext).box #[.string ⟨d1.toArray⟩] 9)
        have HS6:=Lib.hid S6
        have HRUN:=Lib.hid hrun
        clear S6 hrun hg HS1
        go_wp2_with (at_builtin; refine wpList_append_run (by rfl) (by rfl) (by rfl) (by rfl) HRUN.out ?_)
        go_roundw
        case rel => exact ⟨1,by go_num,by omega,HS6.out⟩
        case measure => simp [intOf]
      · have hi : ∀ W,(Instr.index 125 (.agg #[.int .u64 id,.int .u64 ep,.int .u64 cnt]) (.int .i64 1)).run Tryz.prog W = .ok (.int .u64 ep) W:=fun W => idx3 _ _ _ 1 (by omega) W
        go_wp2_with fail
        refine (HF2.out _ _ HS1.out).mono ?_
        rintro r w2 ⟨rfl,hg⟩
        obtain ⟨g2,cap2,w6,hrun,S6⟩:=Sp.appendText 23 d2 (by simp) ((HS1.out.ext0 hg.ext).box #[.string ⟨d2.toArray⟩] 9)
        have HS6:=Lib.hid S6
        have HRUN:=Lib.hid hrun
        clear S6 hrun hg HS1
        go_wp2_with (at_builtin; refine wpList_append_run (by rfl) (by rfl) (by rfl) (by rfl) HRUN.out ?_)
        go_roundw
        case rel => exact ⟨2,by go_num,by omega,HS6.out⟩
        case measure => simp [intOf]
      · have hi : ∀ W,(Instr.index 125 (.agg #[.int .u64 id,.int .u64 ep,.int .u64 cnt]) (.int .i64 2)).run Tryz.prog W = .ok (.int .u64 cnt) W:=fun W => idx3 _ _ _ 2 (by omega) W
        go_wp2_with fail
        refine (HF3.out _ _ HS1.out).mono ?_
        rintro r w2 ⟨rfl,hg⟩
        obtain ⟨g2,cap2,w6,hrun,S6⟩:=Sp.appendText 23 d3 (by simp) ((HS1.out.ext0 hg.ext).box #[.string ⟨d3.toArray⟩] 9)
        have HS6:=Lib.hid S6
        have HRUN:=Lib.hid hrun
        clear S6 hrun hg HS1
        go_wp2_with (at_builtin; refine wpList_append_run (by rfl) (by rfl) (by rfl) (by rfl) HRUN.out ?_)
        go_roundw
        case rel => exact ⟨3,by go_num,by omega,HS6.out⟩
        case measure => simp [intOf]
end
end
section
open Go.RowKit
theorem take_eq {α : Type} {a b : List α} {k : Nat} (h1 : k < a.length) (h2 : k < b.length) (h : a.take k = b.take k) (hx : a[k] = b[k]) : a.take (k + 1) = b.take (k + 1):=by
  rw [List.take_succ_eq_append_getElem h1,List.take_succ_eq_append_getElem h2,h,hx]
section
variable {w : World} {v v2 : Value}
theorem r15Same_any (e g : En) (w : World) (he : EnAt w e v) (hg : EnAt w g v2) : Calls Tryz.prog 31 #[enAgg e v,enAgg g v2] w fun r w2 => r = .returned (.bool (enSame e g)) ∧ Ext [] w w2:=by
  have HS0:=Lib.hid (((Sp.nil w []).box (enCells e v) 40).box (enCells g v2) 40)
  rw [show (w.alloc (.cells (enCells e v) 40)).heap.size = w.heap.size + 1 by simp] at HS0
  have HV : Hid (enSame e g = decide (e.id = g.id ∧ e.dom = g.dom ∧ e.ep = g.ep ∧ e.cnt = g.cnt ∧ e.frm = g.frm ∧ e.rcs = g.rcs ∧ e.born = g.born ∧ e.nxt = g.nxt ∧ e.tries = g.tries)):=rfl
  have HTE:=Lib.hid he.tos
  have HTG:=Lib.hid hg.tos
  have HLE:=Lib.hid he.fit.rcs
  have HLG:=Lib.hid hg.fit.rcs
  obtain ⟨i1,d1,p1,c1,⟨fl,fd⟩,r1,b1,n1,t1⟩:=e
  obtain ⟨i2,d2,p2,c2,⟨gl,gd⟩,r2,b2,n2,t2⟩:=g
  obtain ⟨va,vc,rfl⟩:=he.tos.form
  obtain ⟨ua,uc,rfl⟩:=hg.tos.form
  unfold enAgg
  unfold enCells at HS0
  dsimp only at *
  have hl1 : (r1.length : Int) ≤ 1000:=by have:=HLE.out; omega
  have hl2 : (r2.length : Int) ≤ 1000:=by have:=HLG.out; omega
  clear he hg
  go_enter Tryz.func31,Tryz.ntmps31
  go_upto_region 1 with (fail)
  generalize (w.alloc _).alloc _ = w1 at *
  generalize w.heap.size + 1 = q2 at *
  generalize w.heap.size = q1 at *
  have e0:=HS0.out.pull1.cell
  have e1:=HS0.out.cell
  have HX1:=Lib.hid HS0.out.ext
  by_cases hlm : r1.length = r2.length
  · have hlm' : (r1.length : Int) = r2.length:=by omega
    have HLM:=Lib.hid hlm
    rw [← hlm'] at hl2
    have HR : Hid (∀ n : Nat,n = r2.length → ((n : Int) = r1.length)):=fun n h => by omega
    clear hl2
    rw [← hlm] at e1 HS0
    clear hlm hlm'
    go_wp2_with fail
    go_loopw [5] (fun z wr => ∃ k : Nat,z = .int .i64 k ∧ k ≤ r1.length ∧ r1.take k = r2.take k ∧ Sp w [] wr (boxR q2 #[.int .u64 i2,.string ⟨d2.toArray⟩,.int .u64 p2,.int .u64 c2,.string ⟨gl.toArray⟩,.string ⟨gd.toArray⟩,.slice ua r1.length uc,.int .u64 b2,.int .u64 n2,.int .i64 t2] 40 :: boxR q1 #[.int .u64 i1,.string ⟨d1.toArray⟩,.int .u64 p1,.int .u64 c1,.string ⟨fl.toArray⟩,.string ⟨fd.toArray⟩,.slice va r1.length vc,.int .u64 b1,.int .u64 n1,.int .i64 t1] 40 :: [])) (fun z _ => r1.length - (intOf z).toNat)
    case atStart => exact ⟨0,rfl,Nat.zero_le _,rfl,HS0.out⟩
    case round =>
      obtain ⟨k,rfl,hk,heq,S1⟩:=hrel
      have HEQ:=Lib.hid heq
      have HS:=Lib.hid S1
      have k0:=S1.pull1.cell
      have k1:=S1.cell
      clear heq S1 e0 e1
      have hk' : (k : Int) ≤ r1.length:=by omega
      by_cases hlt : k < r1.length
      · have hlt' : (k : Int) < r1.length:=by omega
        have hltm : k < r2.length:=by have:=HLM.out; omega
        obtain ⟨xb,xo,hxa,x0,x1,x2⟩:=(HTE.out.ext HS.out.ext).at hlt
        obtain ⟨yb,yo,hya,y0,y1,y2⟩:=(HTG.out.ext HS.out.ext).at hltm
        subst hxa hya
        have HN:=Lib.hid (take_eq hlt hltm HEQ.out)
        have HNE : Hid (r1[k] ≠ r2[k] → r1 ≠ r2):=fun h1 h2 => h1 (by subst h2; rfl)
        generalize r1[k] = x at *
        generalize r2[k] = y at *
        obtain ⟨⟨xl,xd⟩,xs⟩:=x
        obtain ⟨⟨yl,yd⟩,ys⟩:=y
        dsimp only at *
        clear hltm
        by_cases he : ((xl,xd),xs) = ((yl,yd),ys)
        · have HN2:=Lib.hid (HN.out he)
          simp only [Prod.mk.injEq] at he
          obtain ⟨⟨rfl,rfl⟩,rfl⟩:=he
          go_upto_region 6 with (fail)
          go_region
          all_goals
            go_wp2_with fail
            go_roundw
            case rel => exact ⟨k + 1,by go_num,by omega,HN2.out,by first | exact HS.out | exact HS.out.drew⟩
            case measure => simp [intOf]; omega
        · have HW:=Lib.hid (HV.out.trans (decide_eq_false (by rintro ⟨g1,g2,g3,g4,g5,g6,g7,g8,g9⟩; exact HNE.out he g6)))
          go_upto_region 6 with (fail)
          by_cases h1 : xl = yl
          · subst h1
            by_cases h2 : xd = yd
            · subst h2
              have h3 : xs ≠ ys:=fun h => he (by rw [h])
              have h3' : (xs == ys) = false:=by simpa using h3
              clear he
              go_region
              all_goals
                go_wp2
                go_ret
                rw [HW.out]
                exact ⟨rfl,by first | exact HS.out.ext | exact HS.out.drew.ext⟩
            · have h2' : (xd == yd) = false:=by simpa using h2
              clear he
              go_region
              all_goals
                go_wp2
                go_ret
                rw [HW.out]
                exact ⟨rfl,by first | exact HS.out.ext | exact HS.out.drew.ext⟩
          · have h1' : (xl == yl) = false:=by simpa using h1
            clear he
            go_region
            all_goals
              go_wp2
              go_ret
              rw [HW.out]
              exact ⟨rfl,by first | exact HS.out.ext | exact HS.out.drew.ext⟩
      · obtain rfl : k = r1.length:=by omega
        have HR2 : Hid (r1 = r2):=by
          have:=HEQ.out
          unfold Hid
          rw [List.take_length,HLM.out,List.take_length] at this
          exact this
        have HX:=Lib.hid HS.out.ext
        clear hlt hk hk'
        by_cases hne : i1 = i2
        · subst hne
          by_cases hne : d1 = d2
          · subst hne
            by_cases hne : p1 = p2
            · subst hne
              by_cases hne : c1 = c2
              · subst hne
                by_cases hne : fl = gl
                · subst hne
                  by_cases hne : fd = gd
                  · subst hne
                    by_cases hne : b1 = b2
                    · subst hne
                      by_cases hne : n1 = n2
                      · subst hne
                        by_cases hne : t1 = t2
                        · subst hne
                          have HW:=Lib.hid (HV.out.trans (decide_eq_true ⟨by trivial,by trivial,by trivial,by trivial,by trivial,HR2.out,by trivial,by trivial,by trivial⟩))
                          go_wp2
                          go_ret
                          rw [HW.out]
                          exact ⟨rfl,HX.out⟩
                        · have hb : (t1 == t2) = false:=by simpa using hne
                          have HW:=Lib.hid (HV.out.trans (decide_eq_false (by rintro ⟨g1,g2,g3,g4,g5,g6,g7,g8,g9⟩; exact hne (by first | exact g1 | exact g2 | exact g3 | exact g4 | exact (Prod.mk.inj g5).1 | exact (Prod.mk.inj g5).2 | exact g7 | exact g8 | exact g9))))
                          go_wp2
                          go_ret
                          rw [HW.out]
                          exact ⟨rfl,HX.out⟩
                      · have hb : ((n1 : Int) == n2) = false:=by simpa using fun h => hne (by omega)
                        have HW:=Lib.hid (HV.out.trans (decide_eq_false (by rintro ⟨g1,g2,g3,g4,g5,g6,g7,g8,g9⟩; exact hne (by first | exact g1 | exact g2 | exact g3 | exact g4 | exact (Prod.mk.inj g5).1 | exact (Prod.mk.inj g5).2 | exact g7 | exact g8 | exact g9))))
                        go_wp2
                        go_ret
                        rw [HW.out]
                        exact ⟨rfl,HX.out⟩
                    · have hb : ((b1 : Int) == b2) = false:=by simpa using fun h => hne (by omega)
                      have HW:=Lib.hid (HV.out.trans (decide_eq_false (by rintro ⟨g1,g2,g3,g4,g5,g6,g7,g8,g9⟩; exact hne (by first | exact g1 | exact g2 | exact g3 | exact g4 | exact (Prod.mk.inj g5).1 | exact (Prod.mk.inj g5).2 | exact g7 | exact g8 | exact g9))))
                      go_wp2
                      go_ret
                      rw [HW.out]
                      exact ⟨rfl,HX.out⟩
                  · have hb : (fd == gd) = false:=by simpa using hne
                    have HW:=Lib.hid (HV.out.trans (decide_eq_false (by rintro ⟨g1,g2,g3,g4,g5,g6,g7,g8,g9⟩; exact hne (by first | exact g1 | exact g2 | exact g3 | exact g4 | exact (Prod.mk.inj g5).1 | exact (Prod.mk.inj g5).2 | exact g7 | exact g8 | exact g9))))
                    go_wp2
                    go_ret
                    rw [HW.out]
                    exact ⟨rfl,HX.out⟩
                · have hb : (fl == gl) = false:=by simpa using hne
                  have HW:=Lib.hid (HV.out.trans (decide_eq_false (by rintro ⟨g1,g2,g3,g4,g5,g6,g7,g8,g9⟩; exact hne (by first | exact g1 | exact g2 | exact g3 | exact g4 | exact (Prod.mk.inj g5).1 | exact (Prod.mk.inj g5).2 | exact g7 | exact g8 | exact g9))))
                  go_wp2
                  go_ret
                  rw [HW.out]
                  exact ⟨rfl,HX.out⟩
              · have hb : ((c1 : Int) == c2) = false:=by simpa using fun h => hne (by omega)
                have HW:=Lib.hid (HV.out.trans (decide_eq_false (by rintro ⟨g1,g2,g3,g4,g5,g6,g7,g8,g9⟩; exact hne (by first | exact g1 | exact g2 | exact g3 | exact g4 | exact (Prod.mk.inj g5).1 | exact (Prod.mk.inj g5).2 | exact g7 | exact g8 | exact g9))))
                go_wp2
                go_ret
                rw [HW.out]
                exact ⟨rfl,HX.out⟩
            · have hb : ((p1 : Int) == p2) = false:=by simpa using fun h => hne (by omega)
              have HW:=Lib.hid (HV.out.trans (decide_eq_false (by rintro ⟨g1,g2,g3,g4,g5,g6,g7,g8,g9⟩; exact hne (by first | exact g1 | exact g2 | exact g3 | exact g4 | exact (Prod.mk.inj g5).1 | exact (Prod.mk.inj g5).2 | exact g7 | exact g8 | exact g9))))
              go_wp2
              go_ret
              rw [HW.out]
              exact ⟨rfl,HX.out⟩
          · have hb : (d1 == d2) = false:=by simpa using hne
            have HW:=Lib.hid (HV.out.trans (decide_eq_false (by rintro ⟨g1,g2,g3,g4,g5,g6,g7,g8,g9⟩; exact hne (by first | exact g1 | exact g2 | exact g3 | exact g4 | exact (Prod.mk.inj g5).1 | exact (Prod.mk.inj g5).2 | exact g7 | exact g8 | exact g9))))
            go_wp2
            go_ret
            rw [HW.out]
            exact ⟨rfl,HX.out⟩
        · have hb : ((i1 : Int) == i2) = false:=by simpa using fun h => hne (by omega)
          have HW:=Lib.hid (HV.out.trans (decide_eq_false (by rintro ⟨g1,g2,g3,g4,g5,g6,g7,g8,g9⟩; exact hne (by first | exact g1 | exact g2 | exact g3 | exact g4 | exact (Prod.mk.inj g5).1 | exact (Prod.mk.inj g5).2 | exact g7 | exact g8 | exact g9))))
          go_wp2
          go_ret
          rw [HW.out]
          exact ⟨rfl,HX.out⟩
  · have hb : ((r1.length : Int) == r2.length) = false:=by simpa using fun h => hlm (by omega)
    have HW:=Lib.hid (HV.out.trans (decide_eq_false (by rintro ⟨g1,g2,g3,g4,g5,g6,g7,g8,g9⟩; exact hlm (by rw [g6]))))
    go_wp2
    go_ret
    rw [HW.out]
    exact ⟨rfl,HX1.out⟩
end
end
end Go.Proofs.YtangbdahnmomlaaGreatDoor
