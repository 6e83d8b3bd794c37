/- ring: a row's bytes (row), and what bytes are read as (read). Conditions: the lengths fit. ring: a domain's state (State, Live), and how it is set (set, Begin, End). Conditions: the lengths fit. ring: Begin, End, Key. Conditions: the lengths fit. ring: Open. Conditions: the lengths fit. ring: Domains. Conditions: the lengths fit. -/
import Derived.BigQuiet
import Derived.Deep.DeepCutAuto
import Derived.Deep.QuietTactic
import Derived.Test.YtangbdahnmomlaaGreatDoorBu04
import Derived.Test.YtangbdahnmomlaaGreatDoorBu14
set_option linter.unnecessarySimpa false
set_option linter.unusedSimpArgs false
set_option linter.unusedVariables false
set_option maxHeartbeats 2000000
set_option maxRecDepth 100000
namespace Go.Proofs.YtangbdahnmomlaaGreatDoor
section
open Go.RowKit Go.Maps
structure RSt where
  now : Nat
  old : Nat
deriving DecidableEq
abbrev RSt.agg (s : RSt) : Value:=.agg #[.int .u64 s.now,.int .u64 s.old]
def ringRow (d : Bs) (s : RSt) : Bs:=textB (textB d ++ (numB s.now ++ numB s.old))
def ringRead (r : Rd) : Bs × RSt × Bool × Rd :=
  let a:=r.text 300
  let t:=Rd.text ⟨a.1,false⟩ 255
  let n:=t.2.num 1000000
  let o:=n.2.num 1000000
  (t.1,⟨n.1,o.1⟩,decide (o.2.done = 0),a.2)
section
variable {w0 w : World} {F0 : List Nat} {L : List Res}
theorem ringRowS (d : Bs) (n o : Nat) (S : Sp w0 F0 w L) (hd : d.length ≤ 1000000) (hn : n < 18446744073709551616) (ho : o < 18446744073709551616) :
    Calls Tryz.prog 110 #[.string ⟨d.toArray⟩,.agg #[.int .u64 n,.int .u64 o]] w fun e w2 => e = .returned (.string ⟨(ringRow d ⟨n,o⟩).toArray⟩) ∧ Sp w0 F0 w2 L:=by
  have HT : Hid (ringRow d ⟨n,o⟩ = textB (textB d ++ (numB n ++ numB o))):=rfl
  have HD:=Lib.hid hd
  have HN:=Lib.hid hn
  have HO:=Lib.hid ho
  have l1:=textB_length_le d
  have l2:=numB_length_le n
  have l3:=numB_length_le o
  have HL : Hid ((textB d).length ≤ 1000009 ∧ (textB d ++ numB n).length ≤ 1000018 ∧ (textB d ++ numB n ++ numB o).length ≤ 1000027):=by refine ⟨by omega,?_,?_⟩ <;> simp only [List.length_append] <;> omega
  have S0:=Lib.hid ((S.box #[.int .u64 n,.int .u64 o] 53).bld 203)
  clear hd hn ho l1 l2 l3 S
  go_enter Tryz.func110,Tryz.ntmps110
  go_wp2_with fail
  simp only [World.size_alloc] at S0
  refine (outTextS S0.out (by decide) (by have:=HD.out; omega)).mono ?_
  rintro e w1 ⟨rfl,S1⟩
  have c:=S1.pull1.cell
  have HS1:=Lib.hid S1
  clear S1 S0
  go_wp2_with fail
  refine (outNumS n HS1.out (by have:=HL.out; simp; omega) HN.out).mono ?_
  rintro e w2 ⟨rfl,S2⟩
  have c2:=S2.pull1.cell
  have HS2:=Lib.hid S2
  clear S2 HS1 c
  go_wp2_with fail
  refine (outNumS o HS2.out (by have:=HL.out; simp only [List.nil_append]; omega) HO.out).mono ?_
  rintro e w3 ⟨rfl,S3⟩
  have HS3:=Lib.hid S3
  clear S3 HS2 c2
  go_wp2_with fail
  refine (bldStringS HS3.out (by simp [textB,numB])).mono ?_
  rintro e w4 ⟨rfl,S4⟩
  have HS4:=Lib.hid S4.drop
  clear S4 HS3
  go_wp2_with fail
  refine (packTextS HS4.out _ (by have:=HL.out; simp at this ⊢; omega)).mono ?_
  rintro e w5 ⟨rfl,S5⟩
  have HS5:=Lib.hid S5
  clear S5 HS4
  go_wp2
  go_ret
  exact ⟨by rw [HT.out]; rfl,HS5.out⟩
theorem ringReadS (b : Nat) (r : Rd) (S : Sp w0 F0 w (rdR 151 b r :: L)) (hr : r.s.length ≤ 1000000000) :
    Calls Tryz.prog 63 #[.pointer (some ⟨b,0,none⟩)] w fun e w2 => e = .returned (.tuple #[.string ⟨(ringRead r).1.toArray⟩,(ringRead r).2.1.agg,.bool (ringRead r).2.2.1]) ∧ Sp w0 F0 w2 (rdR 151 b (ringRead r).2.2.2 :: L):=by
  have HE : Hid (ringRead r = ((Rd.text ⟨(r.text 300).1,false⟩ 255).1,⟨((Rd.text ⟨(r.text 300).1,false⟩ 255).2.num 1000000).1,(((Rd.text ⟨(r.text 300).1,false⟩ 255).2.num 1000000).2.num 1000000).1⟩,decide ((((Rd.text ⟨(r.text 300).1,false⟩ 255).2.num 1000000).2.num 1000000).2.done = 0),(r.text 300).2)):=rfl
  have HR:=Lib.hid hr
  have S0:=Lib.hid (S.box #[.int .u64 0,.int .u64 0] 53).pull1
  clear S hr
  go_enter Tryz.func63,Tryz.ntmps63
  go_wp2_with fail
  refine (rdTextS 300 300 rfl S0.out (by have:=HR.out; omega) (by decide)).mono ?_
  rintro e w1 ⟨rfl,S1⟩
  have HT:=Lib.hid (text_len r 300).2.2
  have HS1:=Lib.hid S1
  clear S1 S0
  generalize r.text 300 = a at *
  obtain ⟨t,r1⟩:=a
  dsimp only at *
  go_wp2_with fail
  refine (fromS HS1.out t).mono ?_
  rintro e w2 ⟨q,rfl,S2⟩
  have HS2:=Lib.hid S2
  clear S2 HS1
  go_wp2_with fail
  refine (rdTextS 255 255 rfl HS2.out (by have:=HT.out; have:=HR.out; dsimp only; omega) (by decide)).mono ?_
  rintro e w3 ⟨rfl,S3⟩
  have HT3:=Lib.hid (text_len ⟨t,false⟩ 255).1
  have HS3:=Lib.hid S3
  clear S3 HS2
  generalize Rd.text ⟨t,false⟩ 255 = a at *
  obtain ⟨d,r2⟩:=a
  dsimp only at *
  go_wp2_with fail
  refine (rdNumS 1000000 1000000 rfl HS3.out (by have:=HT3.out; have:=HT.out; have:=HR.out; omega)).mono ?_
  rintro e w4 ⟨rfl,S4⟩
  have HT4:=Lib.hid (num_len r2 1000000).1
  have HS4:=Lib.hid S4
  clear S4 HS3
  generalize r2.num 1000000 = a at *
  obtain ⟨n,r3⟩:=a
  dsimp only at *
  go_wp2_with fail
  refine (rdNumS 1000000 1000000 rfl HS4.out (by have:=HT4.out; have:=HT3.out; have:=HT.out; have:=HR.out; omega)).mono ?_
  rintro e w5 ⟨rfl,S5⟩
  have HS5:=Lib.hid S5
  clear S5 HS4
  generalize r3.num 1000000 = a at *
  obtain ⟨o,r4⟩:=a
  dsimp only at *
  go_wp2_with fail
  have S6:=HS5.out.box #[.int .u64 n,.int .u64 o] 53
  generalize w5.alloc (.cells #[.int .u64 n,.int .u64 o] 53) = W at *
  generalize w5.heap.size = q8 at *
  have c8:=S6.cell
  have c3:=S6.pull3.cell
  have f3:=S6.pull3.free
  have HS6:=Lib.hid S6
  clear S6 HS5
  go_region_with (go_at_call 97; refine (rdDoneS HS6.out.drew.pull1).mono ?_; rintro e w2 ⟨rfl,rfl⟩)
  all_goals
    go_wp2
    have S7:=((HS6.out.pull3.set (o:=0) (.int .u64 n)).set (o:=1) (.int .u64 o)).drew
    generalize ((W.setCell ⟨w.heap.size,0,none⟩ (.int .u64 n)).setCell ⟨w.heap.size,1,none⟩ (.int .u64 o)).drew = W2 at *
    have c7:=S7.cell
    have HS7:=Lib.hid S7
    clear S7 HS6 c8 c3 f3
    refine bodyPost_ret (v:=.tuple #[.string ⟨d.toArray⟩,.agg #[.int .u64 n,.int .u64 o],.bool (decide (r4.done = 0))]) ?_ rfl ⟨by rw [HE.out],by rw [HE.out]; exact (Sp.pick [_,_,_,_] [3] (by decide) (HS7.out))⟩
    simp [results,Tryz.results63,go_sem,c7]
    rfl
end
end
section
open Go.RowKit Go.Maps
open Go.WideMaps (keyOf_string_mk)
def ringState (M : Mp RSt) (d : Bs) : RSt:=(M.get d).getD ⟨1,0⟩
abbrev ringR (p d : Nat) (M : Mp RSt) : Res:=Res.ex fun m : Nat => (boxR p #[.pointer (some ⟨d,0,none⟩),.map (some m)] 142).and (mapR 9 RSt.agg m M)
theorem keyStr (x : Bs) (hx : x.length ≤ maxLen) : keyOf Tryz.prog 9 (.string ⟨x.toArray⟩) = some (.string x):=keyOf_string_mk Tryz.underlying9 (s:=⟨x.toArray⟩) hx
theorem keyedStr : Keyed Tryz.prog 9:=string_keyed Tryz.underlying9
theorem zeroRSt (w : World) : (zeroValue 53).run Tryz.prog w = .ok (RSt.agg ⟨0,0⟩) w:=by kernel_rfl
section
variable {w0 w : World} {F0 : List Nat} {L : List Res} {p d : Nat} {M : Mp RSt}
theorem firstS (S : Sp w0 F0 w L) : Calls Tryz.prog 70 #[] w fun e w2 => e = .returned (.agg #[.int .u64 1,.int .u64 0]) ∧ Sp w0 F0 w2 L:=by
  have HS:=Lib.hid S
  clear S
  go_enter Tryz.func70,Tryz.ntmps70
  go_wp2
  exact bodyPost_ret (v:=.agg #[.int .u64 1,.int .u64 0]) (by simp [results,Tryz.results70,go_sem]) rfl ⟨rfl,HS.out.new _⟩
theorem ringStateS (x : Bs) (S : Sp w0 F0 w (ringR p d M :: L)) (hx : x.length ≤ maxLen) :
    Calls Tryz.prog 40 #[.pointer (some ⟨p,0,none⟩),.string ⟨x.toArray⟩] w fun e w2 => e = .returned (ringState M x).agg ∧ Sp w0 F0 w2 (ringR p d M :: L):=by
  obtain ⟨m,S1⟩:=S.exOpen
  have S2:=(S1.part.box #[.int .u64 0,.int .u64 0] 53).pull2
  have hl:=S2.map.lookOk (t:=140) keyedStr Tryz.underlying140 (zeroRSt _) (keyStr x hx)
  have c:=S1.part.cell
  have hlt:=S1.part.boxlt
  have HS:=Lib.hid S
  clear S S1 S2 hx
  cases hg : M.get x with
  | none =>
    have hh : M.has x = false:=by rw [Mp.has_eq,hg]; rfl
    rw [hg,hh] at hl
    have HE : Hid (ringState M x = ⟨1,0⟩):=by simp [ringState,hg,Hid]
    clear hg hh
    dsimp only [Option.map_none,Option.getD_none] at hl
    go_enter Tryz.func40,Tryz.ntmps40
    go_wp2_with (go_at_call 70; refine (firstS ((HS.out.box #[.int .u64 0,.int .u64 0] 53).new _)).mono ?_; rintro e w2 ⟨rfl,S2⟩; have c2:=S2.cell; have f2:=S2.free; have HS2:=Lib.hid S2; clear S2)
    have S3:=(HS2.out.set (o:=0) (.int .u64 1)).set (o:=1) (.int .u64 0)
    have c3:=S3.cell
    exact bodyPost_ret (v:=.agg #[.int .u64 1,.int .u64 0]) (by simp [results,Tryz.results40,go_sem,c3]) rfl ⟨by rw [HE.out]; rfl,S3.drop⟩
  | some s =>
    obtain ⟨n,o⟩:=s
    have hh : M.has x = true:=by rw [Mp.has_eq,hg]; rfl
    rw [hg,hh] at hl
    have HE : Hid (ringState M x = ⟨n,o⟩):=by simp [ringState,hg,Hid]
    clear hg hh
    dsimp only [Option.map_some,Option.getD_some] at hl
    go_enter Tryz.func40,Tryz.ntmps40
    go_wp2
    exact bodyPost_ret (v:=.agg #[.int .u64 n,.int .u64 o]) (by simp [results,Tryz.results40,go_sem]) rfl ⟨by rw [HE.out],(HS.out.new _).new _⟩
theorem ringLiveS (x : Bs) (n : Nat) (S : Sp w0 F0 w (ringR p d M :: L)) (hx : x.length ≤ maxLen) (hn : n < 18446744073709551616) :
    Calls Tryz.prog 77 #[.pointer (some ⟨p,0,none⟩),.string ⟨x.toArray⟩,.int .u64 n] w fun e w2 => e = .returned (.bool (decide (0 < n) && (decide (n = (ringState M x).now) || decide (n = (ringState M x).old)))) ∧ Sp w0 F0 w2 (ringR p d M :: L):=by
  have HS:=Lib.hid S
  have HX:=Lib.hid hx
  clear S hx
  go_enter Tryz.func77,Tryz.ntmps77
  go_wp2_with fail
  refine (ringStateS x HS.out HX.out).mono ?_
  rintro e w2 ⟨rfl,S2⟩
  have HS2:=Lib.hid (S2.new (.cells #[.int .u64 (ringState M x).now,.int .u64 (ringState M x).old] 53))
  clear S2
  generalize hs : ringState M x = s at *
  have HE:=Lib.hid hs
  clear hs
  obtain ⟨a,b⟩:=s
  dsimp only at *
  go_wp2
  all_goals
    go_ret
    refine ⟨ret_bool ?_,HS2.out⟩
    rw [HE.out,Bool.eq_iff_iff]
    simp
    omega
def ringB : Bs:=[114,105,110,103]
def ringSet (D : Dk) (M : Mp RSt) (x : Bs) (s : RSt) : Dk × Mp RSt × Int :=
  if s = ringState M x then (D,M,0)
  else if (D.append ringB (ringRow x s)).2 ≠ 0 then ((D.append ringB (ringRow x s)).1,M,(D.append ringB (ringRow x s)).2)
  else if (D.append ringB (ringRow x s)).1.sync.2 ≠ 0 then ((D.append ringB (ringRow x s)).1.sync.1,M,(D.append ringB (ringRow x s)).1.sync.2)
  else ((D.append ringB (ringRow x s)).1.sync.1,M.put x s,0)
theorem ringRow_length_le (x : Bs) (s : RSt) : (ringRow x s).length ≤ x.length + 36:=by
  unfold ringRow
  have h1:=textB_length_le (textB x ++ (numB s.now ++ numB s.old))
  have h2:=textB_length_le x
  have h3:=numB_length_le s.now
  have h4:=numB_length_le s.old
  simp only [List.length_append] at h1
  omega
theorem ringSetS (x : Bs) (n o k : Nat) (D : Dk) (S : Sp w0 F0 w (ringR p d M :: diskR d D :: L)) (hx : x.length ≤ 1000000) (hn : n < 18446744073709551616) (ho : o < 18446744073709551616) (hD : D.Roomy k) (hk : k ≤ 800000000) (hM : M.length ≤ 1000000) :
    Calls Tryz.prog 74 #[.pointer (some ⟨p,0,none⟩),.string ⟨x.toArray⟩,.agg #[.int .u64 n,.int .u64 o]] w fun e w2 => e = .returned (.int .i64 (ringSet D M x ⟨n,o⟩).2.2) ∧ Sp w0 F0 w2 (ringR p d (ringSet D M x ⟨n,o⟩).2.1 :: diskR d (ringSet D M x ⟨n,o⟩).1 :: L):=by
  have HX:=Lib.hid hx
  have HN:=Lib.hid hn
  have HO:=Lib.hid ho
  have HM:=Lib.hid hM
  have HA : Hid (D.Small ∧ (D.append ringB (ringRow x ⟨n,o⟩)).1.Small):=by
    have h1:=hD.append ringB (ringRow x ⟨n,o⟩)
    have h2:=ringRow_length_le x ⟨n,o⟩
    exact ⟨hD.small (by omega),h1.small (by omega)⟩
  obtain ⟨⟨a,b⟩,hs⟩ : ∃ s,ringState M x = s:=⟨_,rfl⟩
  have HE:=Lib.hid hs
  have S1:=S.box #[.int .u64 n,.int .u64 o] 53
  have c1:=S1.cell
  have HS1:=Lib.hid S1.pull1
  clear hx hn ho hM hD hk S S1 hs
  go_enter Tryz.func74,Tryz.ntmps74
  go_wp2_with fail
  generalize w.alloc (.cells #[.int .u64 n,.int .u64 o] 53) = W at *
  generalize w.heap.size = q at *
  have hcase : (((n : Int) == (a : Int)) = true ∧ ((o : Int) == (b : Int)) = true) ∨ ((n : Int) == (a : Int)) = false ∨ (((n : Int) == (a : Int)) = true ∧ ((o : Int) == (b : Int)) = false):=by
    cases (n : Int) == (a : Int) <;> cases (o : Int) == (b : Int) <;> simp
  rcases hcase with ⟨e1,e2⟩ | hne
  · have HV : Hid (ringSet D M x ⟨n,o⟩ = (D,M,0)):=by
      simp only [beq_iff_eq,Int.ofNat_inj] at e1 e2
      unfold ringSet
      rw [if_pos (by rw [HE.out,e1,e2])]
      trivial
    go_region_with (go_at_call 40; refine (ringStateS x HS1.out.drew (by have:=HX.out; unfold maxLen; omega)).mono ?_; rw [HE.out]; rintro e w2 ⟨rfl,S2⟩; have c2:=S2.pull1.cell; have HS2:=Lib.hid S2; clear S2)
    all_goals
      go_wp2
      go_ret
      rw [HV.out]
      exact ⟨rfl,(Sp.pick [_,_,_] [0,2] (by decide) (HS2.out))⟩
  · have HV : Hid (ringSet D M x ⟨n, o⟩ = if (D.append ringB (ringRow x ⟨n, o⟩)).2 ≠ 0 then ((D.append ringB (ringRow x ⟨n, o⟩)).1, M, (D.append ringB (ringRow x ⟨n, o⟩)).2)
        else if (D.append ringB (ringRow x ⟨n,o⟩)).1.sync.2 ≠ 0 then ((D.append ringB (ringRow x ⟨n,o⟩)).1.sync.1,M,(D.append ringB (ringRow x ⟨n,o⟩)).1.sync.2)
        else ((D.append ringB (ringRow x ⟨n,o⟩)).1.sync.1,M.put x ⟨n,o⟩,0)):=by
      unfold ringSet
      rw [if_neg]
      · trivial
      · rw [HE.out,RSt.mk.injEq]
        rcases hne with h | ⟨_,h⟩ <;> simp at h <;> omega
    go_cut [13] (fun v wx => v = .bool false ∧ Sp w0 F0 wx (ringR p d M :: boxR q #[.int .u64 n,.int .u64 o] 53 :: diskR d D :: L))
    case first =>
      rcases hne with e1 | ⟨e1,e2⟩
      all_goals
        go_region_with (go_at_call 40; refine (ringStateS x HS1.out.drew (by have:=HX.out; unfold maxLen; omega)).mono ?_; rw [HE.out]; rintro e w2 ⟨rfl,S2⟩; have c2:=S2.pull1.cell; have HS2:=Lib.hid S2; clear S2)
        all_goals
          clear c1 c2
          go_wp2_with fail
          go_meet
          exact ⟨rfl,HS2.out⟩
    case rest =>
      obtain ⟨rfl,S3⟩:=hcut
      clear hne HS1 c1
      obtain ⟨m,S4⟩:=S3.exOpen
      have c4:=S4.part.cell
      have l4:=S4.part.boxlt
      have HS4:=Lib.hid S4.part
      have q4:=(Sp.pick [_,_,_,_] [2] (by decide) (S4.part)).cell
      have HS3:=Lib.hid S3
      clear S3 S4
      go_wp2_with fail
      go_cut [7] (fun v wx => v = .int .i64 (D.append ringB (ringRow x ⟨n,o⟩)).2 ∧ Sp w0 F0 wx (ringR p d M :: boxR q #[.int .u64 n,.int .u64 o] 53 :: diskR d (D.append ringB (ringRow x ⟨n,o⟩)).1 :: L))
      case first =>
        go_region_with (first | (go_at_call 110; refine (ringRowS x n o HS4.out.drew HX.out HN.out HO.out).mono ?_; rintro e w2 ⟨rfl,S5⟩; have c5:=S5.cell; have q5:=(Sp.pick [_,_,_,_] [2] (by decide) (S5)).cell; have HS5:=Lib.hid S5; clear S5) | (go_at_call 78; refine (appendS ringB (ringRow x ⟨n,o⟩) HS5.out.pull3 HA.out.1 (by decide) (by have:=ringRow_length_le x ⟨n,o⟩; have:=HX.out; omega)).mono ?_; rintro e w3 ⟨rfl,S6⟩; have HS6:=Lib.hid (Sp.pick [_,_,_,_] [1,2,3,0] (by decide) (S6)); clear S6))
        all_goals
          clear c4 q4 c5 q5
          go_wp2_with fail
          go_meet
          exact ⟨rfl,HS6.out.glue.exShut m⟩
      case rest =>
        obtain ⟨rfl,S7⟩:=hcut
        clear HS3 HS4 c4 q4 l4
        obtain ⟨m7,S8⟩:=S7.exOpen
        have HA1:=Lib.hid HA.out.2
        clear HA
        generalize D.append ringB (ringRow x ⟨n,o⟩) = A at *
        obtain ⟨D1,e1⟩:=A
        dsimp only at *
        have c8:=S8.part.cell
        have HS8:=Lib.hid S8.part
        clear S7 S8
        by_cases he : e1 = 0
        · subst he
          go_wp2_with fail
          refine (syncS HS8.out.pull3 HA1.out).mono ?_
          rintro e w3 ⟨rfl,S9⟩
          generalize D1.sync = B at *
          obtain ⟨D2,e2⟩:=B
          dsimp only at *
          by_cases he : e2 = 0
          · subst he
            have c9:=(Sp.pick [_,_,_,_] [1] (by decide) (S9)).cell
            have q9:=(Sp.pick [_,_,_,_] [3] (by decide) (S9)).cell
            obtain ⟨w4,hrun,S10,_⟩:=((Sp.pick [_,_,_,_] [2,1,0] (by decide) (S9))).drew.mapPut (t:=140) keyedStr Tryz.underlying140 (by have:=HM.out; unfold maxLen; omega) (keyStr x (by have:=HX.out; unfold maxLen; omega)) ⟨n,o⟩
            have HS10:=Lib.hid S10.pull1
            have HV3 : Hid (ringSet D M x ⟨n,o⟩ = (D2,M.put x ⟨n,o⟩,0)):=by rw [HV.out]; simp [Hid]
            clear S9 S10 c8 HS8
            go_wp2_with fail
            go_region
            all_goals
              go_wp2
              go_ret
              rw [HV3.out]
              exact ⟨rfl,HS10.out.glue.exShut m7⟩
          · have t2 : (e2 != 0) = true:=by simpa using he
            have HS9:=Lib.hid (Sp.pick [_,_,_,_] [1,2,0] (by decide) (S9))
            have HV2 : Hid (ringSet D M x ⟨n,o⟩ = (D2,M,e2)):=by rw [HV.out]; simp [he,Hid]
            clear S9 he
            go_wp2
            go_ret
            rw [HV2.out]
            exact ⟨rfl,HS9.out.glue.exShut m7⟩
        · have t1 : (e1 != 0) = true:=by simpa using he
          have HV1 : Hid (ringSet D M x ⟨n,o⟩ = (D1,M,e1)):=by rw [HV.out]; simp [he,Hid]
          clear he
          go_wp2
          go_ret
          rw [HV1.out]
          exact ⟨rfl,((Sp.pick [_,_,_,_] [0,1,3] (by decide) (HS8.out))).glue.exShut m7⟩
end
end
section
open Go.RowKit Go.Maps
def ringBegin (D : Dk) (M : Mp RSt) (x : Bs) : Dk × Mp RSt × Nat × Int :=
  if 255 < x.length then (D,M,0,5)
  else if (ringState M x).old ≠ 0 then (D,M,0,11)
  else if (ringState M x).now = 1000000 then (D,M,0,21)
  else if (ringSet D M x ⟨(ringState M x).now + 1,(ringState M x).now⟩).2.2 ≠ 0 then ((ringSet D M x ⟨(ringState M x).now + 1,(ringState M x).now⟩).1,(ringSet D M x ⟨(ringState M x).now + 1,(ringState M x).now⟩).2.1,0,(ringSet D M x ⟨(ringState M x).now + 1,(ringState M x).now⟩).2.2)
  else ((ringSet D M x ⟨(ringState M x).now + 1,(ringState M x).now⟩).1,(ringSet D M x ⟨(ringState M x).now + 1,(ringState M x).now⟩).2.1,(ringState M x).now + 1,0)
def ringEnd (D : Dk) (M : Mp RSt) (x : Bs) : Dk × Mp RSt × Int :=
  if 255 < x.length then (D,M,5)
  else if (ringState M x).old = 0 then (D,M,10)
  else ringSet D M x ⟨(ringState M x).now,0⟩
def ringKey (x : Bs) (n : Nat) : Bs:=textB x ++ numB n
def ringOk (M : Mp RSt) : Prop:=M.length ≤ 1000000 ∧ ∀ p ∈ M,p.2.now ≤ 1000000 ∧ p.2.old ≤ 1000000
theorem ringOk.state {M : Mp RSt} (h : ringOk M) (x : Bs) : (ringState M x).now ≤ 1000000 ∧ (ringState M x).old ≤ 1000000:=by
  unfold ringState Mp.get
  cases hf : M.find? fun p => p.1 == x with
  | none => simp
  | some p => exact h.2 p (List.mem_of_find?_eq_some hf)
section
variable {w0 w : World} {F0 : List Nat} {L : List Res} {p d : Nat} {M : Mp RSt}
theorem ringKeyS (x : Bs) (n : Nat) (S : Sp w0 F0 w L) (hx : x.length ≤ 1000000) (hn : n < 18446744073709551616) :
    Calls Tryz.prog 104 #[.string ⟨x.toArray⟩,.int .u64 n] w fun e w2 => e = .returned (.string ⟨(ringKey x n).toArray⟩) ∧ Sp w0 F0 w2 L:=by
  have HS:=Lib.hid S
  have HX:=Lib.hid hx
  have HN:=Lib.hid hn
  have HK : Hid (ringKey x n = textB x ++ numB n):=rfl
  have hadd:=add_str (textB x) (numB n) (by have:=textB_length_le x; have:=numB_length_le n; unfold maxLen; omega)
  clear S hx hn
  go_enter Tryz.func104,Tryz.ntmps104
  go_wp2_with fail
  refine (packTextS HS.out x (by have:=HX.out; omega)).mono ?_
  rintro e w1 ⟨rfl,S1⟩
  have HS1:=Lib.hid S1
  clear S1
  go_wp2_with fail
  refine (packNumS HS1.out n HN.out).mono ?_
  rintro e w2 ⟨rfl,S2⟩
  have HS2:=Lib.hid S2
  clear S2
  go_wp2
  go_ret
  exact ⟨by rw [HK.out]; rfl,HS2.out⟩
theorem ringBeginS (x : Bs) (k : Nat) (D : Dk) (S : Sp w0 F0 w (ringR p d M :: diskR d D :: L)) (hx : x.length ≤ 1000000) (hM : ringOk M) (hD : D.Roomy k) (hk : k ≤ 800000000) :
    Calls Tryz.prog 43 #[.pointer (some ⟨p,0,none⟩),.string ⟨x.toArray⟩] w fun e w2 => e = .returned (.tuple #[.int .u64 (ringBegin D M x).2.2.1,.int .i64 (ringBegin D M x).2.2.2]) ∧ Sp w0 F0 w2 (ringR p d (ringBegin D M x).2.1 :: diskR d (ringBegin D M x).1 :: L):=by
  have HS:=Lib.hid S
  have HX:=Lib.hid hx
  have HM:=Lib.hid hM
  have HD:=Lib.hid hD
  have HK:=Lib.hid hk
  have hb:=hM.state x
  have hx' : (x.length : Int) ≤ 1000000:=by omega
  have HB : Hid (ringBegin D M x = _):=Lib.hid (ringBegin.eq_1 D M x)
  clear S hM hD hk hx
  go_enter Tryz.func43,Tryz.ntmps43
  go_wp2_with fail
  refine (ringStateS x HS.out (by have:=HX.out; unfold maxLen; omega)).mono ?_
  rintro e w2 ⟨rfl,S2⟩
  generalize hs : ringState M x = s at *
  have HE:=Lib.hid hs
  clear hs HS
  obtain ⟨a,b⟩:=s
  dsimp only at *
  have HS2:=Lib.hid (S2.box (.mk [.int .u64 a,.int .u64 b]) 53).pull2.pull2
  have ha : (a : Int) ≤ 1000000:=by omega
  have hb' : (b : Int) ≤ 1000000:=by omega
  have HA:=Lib.hid hb.1
  clear S2 hb
  go_wp2_with (go_at_call 74; refine (ringSetS x (a + 1) a k D HS2.out HX.out (by have:=HA.out; omega) (by have:=HA.out; omega) HD.out HK.out HM.out.1).mono ?_; rintro e w3 ⟨rfl,S3⟩; have c3:=(Sp.pick [_,_,_] [2] (by decide) (S3)).cell; have HS3:=Lib.hid S3; clear S3)
  all_goals
    go_ret2
    rw [HB.out]
    simp only [bne_iff_ne,ne_eq,bne_eq_false_iff_eq,beq_iff_eq,beq_eq_false_iff_ne] at *
    repeat' split
    all_goals first
      | (exfalso; omega)
      | exact ⟨rfl,(Sp.pick [_,_,_] [0,1] (by decide) (HS2.out))⟩
      | exact ⟨rfl,(Sp.pick [_,_,_] [0,1] (by decide) (HS3.out))⟩
theorem ringEndS (x : Bs) (k : Nat) (D : Dk) (S : Sp w0 F0 w (ringR p d M :: diskR d D :: L)) (hx : x.length ≤ 1000000) (hM : ringOk M) (hD : D.Roomy k) (hk : k ≤ 800000000) :
    Calls Tryz.prog 42 #[.pointer (some ⟨p,0,none⟩),.string ⟨x.toArray⟩] w fun e w2 => e = .returned (.int .i64 (ringEnd D M x).2.2) ∧ Sp w0 F0 w2 (ringR p d (ringEnd D M x).2.1 :: diskR d (ringEnd D M x).1 :: L):=by
  have HS:=Lib.hid S
  have HX:=Lib.hid hx
  have HM:=Lib.hid hM
  have HD:=Lib.hid hD
  have HK:=Lib.hid hk
  have hb:=hM.state x
  have hx' : (x.length : Int) ≤ 1000000:=by omega
  have HB : Hid (ringEnd D M x = _):=Lib.hid (ringEnd.eq_1 D M x)
  clear S hM hD hk hx
  go_enter Tryz.func42,Tryz.ntmps42
  go_wp2_with fail
  refine (ringStateS x HS.out (by have:=HX.out; unfold maxLen; omega)).mono ?_
  rintro e w2 ⟨rfl,S2⟩
  generalize hs : ringState M x = s at *
  have HE:=Lib.hid hs
  clear hs HS
  obtain ⟨a,b⟩:=s
  dsimp only at *
  have HS2:=Lib.hid (S2.box (.mk [.int .u64 a,.int .u64 b]) 53).pull2.pull2
  have ha : (a : Int) ≤ 1000000:=by omega
  have hb' : (b : Int) ≤ 1000000:=by omega
  have HA:=Lib.hid hb.1
  clear S2 hb
  go_wp2_with (go_at_call 74; refine (ringSetS x a 0 k D HS2.out HX.out (by have:=HA.out; omega) (by decide) HD.out HK.out HM.out.1).mono ?_; rintro e w3 ⟨rfl,S3⟩; have HS3:=Lib.hid S3; clear S3)
  all_goals
    go_ret
    rw [HB.out]
    simp only [beq_iff_eq,beq_eq_false_iff_ne] at *
    repeat' split
    all_goals first
      | (exfalso; omega)
      | exact ⟨rfl,(Sp.pick [_,_,_] [0,1] (by decide) (HS2.out))⟩
      | exact ⟨rfl,(Sp.pick [_,_,_] [0,1] (by decide) (HS3.out))⟩
end
end
section
open Go.RowKit Go.Maps
def ringScan : Nat → Bs → List (Bs × RSt) × Bs
  | 0,s => ([],s)
  | f + 1,s => if (ringRead ⟨s,false⟩).2.2.1 then (((ringRead ⟨s,false⟩).1,(ringRead ⟨s,false⟩).2.1) :: (ringScan f (ringRead ⟨s,false⟩).2.2.2.s).1,(ringScan f (ringRead ⟨s,false⟩).2.2.2.s).2) else ([],s)
def ringPuts (l : List (Bs × RSt)) : Mp RSt:=l.foldl (fun M p => M.put p.1 p.2) []
def ringFile (D : Dk) : Bs:=(D.now.get ringB).getD []
def ringRows (s : Bs) : List (Bs × RSt):=(ringScan (s.length + 1) s).1
def ringRest (s : Bs) : Bs:=(ringScan (s.length + 1) s).2
def ringOpen (D : Dk) : Dk × Option (Mp RSt) × Int :=
  if D.now.has ringB = true ∧ ringRest (ringFile D) = [] then (D,some (ringPuts (ringRows (ringFile D))),0)
  else if (D.write ringB ((ringFile D).take ((ringFile D).length - (ringRest (ringFile D)).length))).2 ≠ 0 then ((D.write ringB ((ringFile D).take ((ringFile D).length - (ringRest (ringFile D)).length))).1,none,(D.write ringB ((ringFile D).take ((ringFile D).length - (ringRest (ringFile D)).length))).2)
  else if (D.write ringB ((ringFile D).take ((ringFile D).length - (ringRest (ringFile D)).length))).1.sync.2 ≠ 0 then ((D.write ringB ((ringFile D).take ((ringFile D).length - (ringRest (ringFile D)).length))).1.sync.1,none,(D.write ringB ((ringFile D).take ((ringFile D).length - (ringRest (ringFile D)).length))).1.sync.2)
  else ((D.write ringB ((ringFile D).take ((ringFile D).length - (ringRest (ringFile D)).length))).1.sync.1,some (ringPuts (ringRows (ringFile D))),0)
def OpenPost (w0 : World) (F0 : List Nat) (L : List Res) (d : Nat) (R : Dk × Option (Mp RSt) × Int) (e : Ending) (w2 : World) : Prop :=
  match R.2.1 with
  | none => e = .returned (.tuple #[.pointer none,.int .i64 R.2.2]) ∧ Sp w0 F0 w2 (diskR d R.1 :: L)
  | some M => ∃ p,e = .returned (.tuple #[.pointer (some ⟨p,0,none⟩),.int .i64 R.2.2]) ∧ Sp w0 F0 w2 (ringR p d M :: diskR d R.1 :: L)
theorem done_bad {r : Rd} (h : r.done = 0) : r.bad = false ∧ r.s = []:=by
  unfold Rd.done at h
  split at h
  · cases h
  · split at h
    · rename_i h1 h2
      exact ⟨by simpa using h1,by simpa using h2⟩
    · cases h
theorem ringRead_nil : (ringRead ⟨[],false⟩).2.2.1 = false:=by decide
theorem ringRead_ok {s : Bs} (h : (ringRead ⟨s,false⟩).2.2.1 = true) :
    (ringRead ⟨s,false⟩).2.2.2.bad = false ∧ s = ringRow (ringRead ⟨s,false⟩).1 (ringRead ⟨s,false⟩).2.1 ++ (ringRead ⟨s,false⟩).2.2.2.s ∧ (ringRead ⟨s,false⟩).2.2.2.s.length < s.length ∧ (ringRead ⟨s,false⟩).1.length ≤ 255 ∧ (ringRead ⟨s,false⟩).2.1.now ≤ 1000000 ∧ (ringRead ⟨s,false⟩).2.1.old ≤ 1000000:=by
  unfold ringRead at h ⊢
  simp only [decide_eq_true_eq] at h ⊢
  obtain ⟨b3,e3⟩:=done_bad h
  obtain ⟨b2,e2⟩:=num_ok b3
  obtain ⟨b1,e1⟩:=num_ok b2
  obtain ⟨b0,e0⟩:=text_ok b1
  have l1:=text_fst_le ⟨(Rd.text ⟨s,false⟩ 300).1,false⟩ 255
  have l2:=num_le (Rd.text ⟨(Rd.text ⟨s,false⟩ 300).1,false⟩ 255).2 1000000
  have l3:=num_le ((Rd.text ⟨(Rd.text ⟨s,false⟩ 300).1,false⟩ 255).2.num 1000000).2 1000000
  have hb : (Rd.text ⟨s,false⟩ 300).2.bad = false:=by
    cases hh : (Rd.text ⟨s,false⟩ 300).2.bad with
    | false => rfl
    | true =>
      exfalso
      have ht : (Rd.text ⟨s,false⟩ 300).1 = []:=by
        unfold Rd.text Rd.take at hh ⊢
        split
        · rfl
        · rename_i hc
          rw [if_neg hc] at hh
          cases hh
      dsimp only at e0
      rw [ht] at e0
      simp [textB,numB] at e0
  obtain ⟨_,ea⟩:=text_ok hb
  have hl:=(text_len ⟨s,false⟩ 300).2.1 hb
  dsimp only at *
  refine ⟨hb,?_,hl,l1,l2,l3⟩
  rw [e3,List.append_nil] at e2
  rw [e2] at e1
  rw [e1] at e0
  unfold ringRow
  rw [← e0]
  exact ea
theorem ringScan_succ (f : Nat) (s : Bs) (h : s.length < f) : ringScan (f + 1) s = ringScan f s:=by
  induction f generalizing s with
  | zero => omega
  | succ f ih =>
    conv => lhs; rw [ringScan]
    conv => rhs; rw [ringScan]
    split
    · rename_i h1
      obtain ⟨_,_,h2,_⟩:=ringRead_ok h1
      rw [ih _ (by omega)]
    · rfl
theorem ringScan_step {s : Bs} (h : (ringRead ⟨s,false⟩).2.2.1 = true) : ringRows s = ((ringRead ⟨s,false⟩).1,(ringRead ⟨s,false⟩).2.1) :: ringRows (ringRead ⟨s,false⟩).2.2.2.s ∧ ringRest s = ringRest (ringRead ⟨s,false⟩).2.2.2.s:=by
  obtain ⟨_,_,h2,_⟩:=ringRead_ok h
  have h3 : ∀ f,(ringRead ⟨s,false⟩).2.2.2.s.length < f → ringScan f (ringRead ⟨s,false⟩).2.2.2.s = ringScan ((ringRead ⟨s,false⟩).2.2.2.s.length + 1) (ringRead ⟨s,false⟩).2.2.2.s:=by
    intro f hf
    induction f with
    | zero => omega
    | succ f ih =>
      by_cases hh : (ringRead ⟨s,false⟩).2.2.2.s.length < f
      · rw [ringScan_succ _ _ hh,ih hh]
      · rw [show f = (ringRead ⟨s,false⟩).2.2.2.s.length by omega]
  unfold ringRows ringRest
  rw [ringScan,if_pos h,h3 _ h2]
  exact ⟨rfl,rfl⟩
theorem ringScan_stop {s : Bs} (h : (ringRead ⟨s,false⟩).2.2.1 = false) : ringRows s = [] ∧ ringRest s = s:=by
  unfold ringRows ringRest
  rw [ringScan,if_neg (by simp [h])]
  exact ⟨rfl,rfl⟩
theorem ringPuts_snoc (l : List (Bs × RSt)) (x : Bs × RSt) : ringPuts (l ++ [x]) = (ringPuts l).put x.1 x.2:=by simp [ringPuts]
theorem ringPuts_length (l : List (Bs × RSt)) : (ringPuts l).length ≤ l.length:=by
  have : ∀ (l : List (Bs × RSt)) (M : Mp RSt),(l.foldl (fun M p => M.put p.1 p.2) M).length ≤ M.length + l.length:=by
    intro l
    induction l with
    | nil => intro M; simp
    | cons x l ih =>
      intro M
      have h1:=ih (M.put x.1 x.2)
      have h2:=Mp.length_put_le M x.1 x.2
      simp only [List.foldl_cons,List.length_cons]
      omega
  have:=this l []
  simpa [ringPuts] using this
section
variable {w0 w : World} {F0 : List Nat} {L : List Res} {d : Nat}
theorem ringOpenS (k : Nat) (D : Dk) (S : Sp w0 F0 w (diskR d D :: L)) (hD : D.Roomy k) (hk : k ≤ 400000000) :
    Calls Tryz.prog 35 #[.pointer (some ⟨d,0,none⟩)] w fun e w2 => OpenPost w0 F0 L d (ringOpen D) e w2:=by
  have HO : Hid (ringOpen D = _):=Lib.hid (ringOpen.eq_1 D)
  have HF : Hid (ringFile D = (D.now.get ringB).getD []):=rfl
  have hl : (ringFile D).length ≤ k:=hD.file ringB
  have HL : Hid ((ringFile D).length ≤ 400000000):=Nat.le_trans hl hk
  have HW : Hid (D.Small ∧ ∀ x : Bs,x.length ≤ 400000000 → (D.write ringB x).1.Small):=by
    refine ⟨hD.small (by omega),fun x hx => (hD.write ringB x).small (by omega)⟩
  have HS:=Lib.hid S
  have hmm:=@run_makeMap Tryz.prog
  clear S hD hk hl
  go_enter Tryz.func35,Tryz.ntmps35
  go_wp2_with fail
  refine (readS ringB HS.out (by decide)).mono ?_
  rw [← HF.out]
  rintro e w2 ⟨rfl,rfl⟩
  generalize ringFile D = s at *
  obtain ⟨ec,hec⟩ : ∃ c : Int,(if D.now.has ringB then 0 else 10) = c:=⟨_,rfl⟩
  rw [hec]
  have HEC : Hid ((D.now.has ringB = true ∧ ec = 0) ∨ (D.now.has ringB = false ∧ ec = 10)):=by
    cases hh : D.now.has ringB <;> simp [hh] at hec <;> simp [hec.symm,Hid]
  clear hec
  go_wp2_with fail
  have S1:=(HS.out.mapMade 9 RSt.agg).box #[.pointer (some ⟨d,0,none⟩),.map (some w.heap.size)] 142
  simp only [World.size_alloc] at S1
  refine (fromS S1 s).mono ?_
  rintro e w3 ⟨i,rfl,S3⟩
  clear S1 HS hmm
  generalize w.heap.size + 1 = p at *
  generalize w.heap.size = m at *
  have HS3:=Lib.hid S3
  clear S3
  go_wp2_with fail
  go_loopw [8] (fun v wr => ∃ (dn : List (Bs × RSt)) (r : Bs),ringRows s = dn ++ ringRows r ∧ ringRest s = ringRest r ∧ v = .int .i64 ((s.length : Int) - r.length) ∧ r.length + dn.length ≤ s.length ∧ Sp w0 F0 wr (rdR 151 i ⟨r,false⟩ :: boxR p #[.pointer (some ⟨d,0,none⟩),.map (some m)] 142 :: mapR 9 RSt.agg m (ringPuts dn) :: diskR d D :: L)) (fun v _ => s.length - (intOf v).toNat)
  case atStart => exact ⟨[],s,rfl,rfl,by simp,by simp,HS3.out⟩
  case round =>
    obtain ⟨dn,r,h1,h2,rfl,h4,S4⟩:=hrel
    have H1:=Lib.hid h1
    have H2:=Lib.hid h2
    have H4:=Lib.hid h4
    have HS4:=Lib.hid S4
    clear h1 h2 h4 S4 HS3
    go_wp2_with fail
    refine (ringReadS i ⟨r,false⟩ HS4.out (by have:=HL.out; have:=H4.out; dsimp only; omega)).mono ?_
    have HQ:=Lib.hid (@ringRead_ok r)
    have HQ1:=Lib.hid (@ringScan_step r)
    have HQ2:=Lib.hid (@ringScan_stop r)
    generalize ringRead ⟨r,false⟩ = q at *
    obtain ⟨x,⟨a,b⟩,ok,r2⟩:=q
    dsimp only at *
    rintro e w4 ⟨rfl,S5⟩
    clear HS4
    cases ok with
    | false =>
      obtain ⟨g1,g2⟩:=HQ2.out rfl
      have HR1 : Hid (ringRows s = dn):=by rw [H1.out,g1]; simp [Hid]
      have HR2 : Hid (ringRest s = r):=by rw [H2.out,g2]; trivial
      have HS5:=Lib.hid ((Sp.pick [_,_,_,_] [1,2,3] (by decide) (S5)).new (.cells #[.int .u64 a,.int .u64 b] 53))
      clear g1 g2 HQ HQ1 HQ2 H1 H2 S5
      rw [HR1.out,HR2.out] at HO
      have hr : (r.length : Int) ≤ s.length:=by have:=H4.out; omega
      have hs : (s.length : Int) ≤ 400000000:=by have:=HL.out; omega
      have HC:=Lib.hid (cut_head s (s.length - r.length))
      have HWL : Hid ((s.take (s.length - r.length)).length ≤ 400000000):=by have:=HL.out; rw [List.length_take]; unfold Hid; omega
      go_wp2_with fail
      · have hr0 : r = []:=by
          have h : ((s.length : Int) - r.length == s.length) = true:=by assumption
          simp only [beq_iff_eq] at h
          exact List.eq_nil_of_length_eq_zero (by omega)
        have he : ec = 0:=by assumption
        have hh : D.now.has ringB = true:=by rcases HEC.out with h | h; exact h.1; omega
        go_ret2
        rw [HO.out,if_pos ⟨hh,hr0⟩]
        exact ⟨p,rfl,HS5.out.glue.exShut m⟩
      all_goals
        have hno : ¬ (D.now.has ringB = true ∧ r = []):=by
          rintro ⟨h1,h2⟩
          rcases HEC.out with h | h
          · have he:=h.2
            subst he h2
            simp at *
          · rw [h1] at h
            cases h.1
        rw [if_neg hno] at HO
        clear hno
        rw [HC.out]
        refine (writeS ringB _ HS5.out.pull2 HW.out.1 (by decide) (by have:=HWL.out; omega)).mono ?_
        have HW1:=Lib.hid (HW.out.2 _ HWL.out)
        generalize D.write ringB (s.take (s.length - r.length)) = A at *
        obtain ⟨D1,e1⟩:=A
        dsimp only at *
        rintro e w5 ⟨rfl,S6⟩
        have HS6:=Lib.hid S6
        clear S6 HS5
        go_wp2_with (go_at_call 46; refine (syncS HS6.out HW1.out).mono ?_; rintro e w6 ⟨rfl,S7⟩; have HS7:=Lib.hid S7; clear S7)
        all_goals
          go_ret2
          simp only [bne_iff_ne,ne_eq,bne_eq_false_iff_eq] at *
          rw [HO.out]
          first
            | (rw [if_pos (by assumption)]; exact ⟨rfl,(Sp.pick [_,_,_] [0] (by decide) (HS6.out))⟩)
            | (rw [if_neg (by simpa using ‹e1 = 0›),if_pos (by assumption)]; exact ⟨rfl,(Sp.pick [_,_,_] [0] (by decide) (HS7.out))⟩)
            | (rw [if_neg (by simpa using ‹e1 = 0›),if_neg (by simpa using ‹D1.sync.2 = 0›)]; exact ⟨p,rfl,((Sp.pick [_,_,_] [1,2,0] (by decide) (HS7.out))).glue.exShut m⟩)
    | true =>
      obtain ⟨g1,g2,g3,g4,g5,g6⟩:=HQ.out rfl
      obtain ⟨g7,g8⟩:=HQ1.out rfl
      have S6:=S5.box #[.int .u64 a,.int .u64 b] 53
      have c6:=S6.cell
      have p6:=(Sp.pick [_,_,_] [2] (by decide) (S6)).cell
      obtain ⟨r2,bad⟩:=r2
      dsimp only at *
      subst g1
      have HM : Hid ((ringPuts dn).length < maxLen):=by have:=ringPuts_length dn; have:=H4.out; have:=HL.out; unfold Hid maxLen; omega
      obtain ⟨w5,hrun,S7,_⟩:=((Sp.pick [_,_,_,_,_] [3,1,2,4] (by decide) (S6))).drew.mapPut (t:=140) keyedStr Tryz.underlying140 HM.out (keyStr x (by unfold maxLen; omega)) ⟨a,b⟩
      rw [← ringPuts_snoc dn (x,⟨a,b⟩)] at S7
      have S7':=(Sp.pick [_,_,_,_] [1,2,0,3] (by decide) (S7))
      have HS7:=Lib.hid S7'
      have h1 : ringRows s = (dn ++ [(x,⟨a,b⟩)]) ++ ringRows r2:=by rw [H1.out,g7]; simp
      have h2 : ringRest s = ringRest r2:=by rw [H2.out,g8]
      have H1:=Lib.hid h1
      have H2:=Lib.hid h2
      have H4' : Hid (r2.length + (dn ++ [(x,(⟨a,b⟩ : RSt))]).length ≤ s.length):=by have:=H4.out; simp only [List.length_append,List.length_cons,List.length_nil,Hid]; omega
      have hr2 : (r2.length : Int) ≤ s.length:=by have:=H4.out; omega
      have hs : (s.length : Int) ≤ 400000000:=by have:=HL.out; omega
      have H3 : Hid (r2.length < r.length ∧ r.length ≤ s.length):=⟨g3,by have:=H4.out; omega⟩
      clear g2 g3 g4 g5 g6 g7 g8 HQ HQ1 HQ2 S5 S6 S7 S7' h1 h2
      go_wp2_with fail
      go_region
      all_goals
        clear c6 p6 hrun
        go_wp2_with (go_at_call 64; refine (rdLeftS HS7.out).mono ?_; rintro e w2 ⟨rfl,rfl⟩)
        go_roundw
        case rel => exact ⟨_,r2,H1.out,H2.out,rfl,H4'.out,HS7.out⟩
        case measure => have:=H3.out; simp [intOf]; omega
end
end
end Go.Proofs.YtangbdahnmomlaaGreatDoor
