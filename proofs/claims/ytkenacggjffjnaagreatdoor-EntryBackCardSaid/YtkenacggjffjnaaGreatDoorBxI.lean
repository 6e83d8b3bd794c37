/- box: an ideal one, by its table. Conditions: the lengths fit. -/
import Derived.Test.YtkenacggjffjnaaGreatDoorEnQ
import Derived.Test.YtkenacggjffjnaaGreatDoorEnS
set_option linter.unusedSimpArgs false
set_option linter.unusedVariables false
set_option linter.unnecessarySimpa false
namespace Go.Proofs.YtkenacggjffjnaaGreatDoor
open Go.RowKit Go.Maps

theorem bxuCells : Tryz.prog.cellsOf 134 = 2 := by kernel_rfl
theorem bxuRow : (134 : TypeId) < Tryz.prog.types.size := of_decide_eq_true (by kernel_rfl)
theorem bxuKeyType : Tryz.prog.keyType 134 = true := by kernel_rfl
theorem bxuWide : (match Tryz.prog.underlying 134 with | some (.array _ _) | some (.struct _) => true | _ => false) = true := by kernel_rfl
set_option maxRecDepth 100000 in
theorem bxuKeyed : Keyed Tryz.prog 134 := Keyed.of_law (deep_law_laid laidOut (m := 2) (by omega) bxuRow (by kernel_rfl) bxuWide)
/-- A key and a nonce, as the one key that the table has. -/
def uB (x s : Bs) : Bs := keyBytes [.string x, .string s]
theorem bxuSize : ∃ m, Tryz.prog.types.size = m + 1 := by
  have h := bxuRow
  generalize Tryz.prog.types.size = n at *
  exact ⟨n - 1, (Nat.succ_pred_eq_of_pos (Nat.lt_of_le_of_lt (Nat.zero_le _) h)).symm⟩
theorem bxStrCells : Tryz.prog.cellsOf 9 = 1 := by kernel_rfl
theorem bxuKey (x s : Bs) (hx : x.length ≤ maxLen) (hs : s.length ≤ maxLen) : keyOf Tryz.prog 134 (.agg #[.string ⟨x.toArray⟩, .string ⟨s.toArray⟩]) = some (.string (uB x s)) := by
  have hsx : (ByteArray.mk x.toArray).size ≤ maxLen := hx
  have hss : (ByteArray.mk s.toArray).size ≤ maxLen := hs
  have hkt := bxuKeyType
  obtain ⟨m, hm⟩ := bxuSize
  unfold keyOf
  simp only [Tryz.underlying134]
  rw [if_pos (by simp [hkt, Value.formed, Tryz.underlying134, bxuCells]), hm]
  unfold Program.keyLits
  simp only [Tryz.underlying134, Value.cells]
  rw [if_pos ⟨by rw [bxuCells]; rfl, by kernel_rfl⟩]
  simp [bxStrCells, Program.keyLits, Tryz.underlying9, hsx, hss, uB]
theorem uB_inj {x s y t : Bs} (hx : x.length ≤ maxLen) (hs : s.length ≤ maxLen) (hy : y.length ≤ maxLen) (ht : t.length ≤ maxLen) (h : uB x s = uB y t) : x = y ∧ s = t := by
  have h1 := bxuKey x s hx hs
  rw [h] at h1
  have h2 := bxuKeyed.inj h1 (bxuKey y t hy ht)
  simp only [Value.agg.injEq, Array.mk.injEq, List.cons.injEq, Value.string.injEq, ByteArray.mk.injEq, and_true] at h2
  exact ⟨by simpa using h2.1, by simpa using h2.2⟩
def encSe (x : Sealed3) : Value := .agg #[.string ⟨x.1.toArray⟩, .string ⟨x.2.1.toArray⟩, .string ⟨x.2.2.toArray⟩]
theorem zeroSe (w : World) : (zeroValue 131).run Tryz.prog w = .ok (.agg #[.string ⟨#[]⟩, .string ⟨#[]⟩, .string ⟨#[]⟩]) w := by kernel_rfl
/-- A box by a table, with draws left. -/
abbrev idealR (b : Nat) (D : Bs) (T : Mp Sealed3) : Res := Res.ex fun m => (boxR b #[.bool true, .string ⟨D.toArray⟩, .map (some m)] 102).and (mapR 134 encSe m T)

section
variable {w0 w : World} {F0 : List Nat} {L : List Res} {b : Nat} {D : Bs} {T : Mp Sealed3}
theorem Sp.ideal {m : Nat} (S : Sp w0 F0 w (boxR b #[.bool true, .string ⟨D.toArray⟩, .map (some m)] 102 :: mapR 134 encSe m T :: L)) : Sp w0 F0 w (idealR b D T :: L) := (S.glue).exShut m
set_option maxRecDepth 100000 in
set_option maxHeartbeats 1000000 in
theorem idealS (D : Bs) (S : Sp w0 F0 w L) : Calls Tryz.prog 26 #[.string ⟨D.toArray⟩] w fun e w2 => ∃ b, e = .returned (.pointer (some ⟨b, 0, none⟩)) ∧ Sp w0 F0 w2 (idealR b D [] :: L) := by
  have hmm := @run_makeMap Tryz.prog
  have HS := Lib.hid ((S.mapMade 134 encSe).box #[.bool true, .string ⟨D.toArray⟩, .map (some w.heap.size)] 102)
  rw [show (w.alloc (.map #[] 0)).heap.size = w.heap.size + 1 by simp] at HS
  clear S
  go_enter Tryz.func26, Tryz.ntmps26
  go_wp2
  go_ret
  exact ⟨_, rfl, Sp.ideal HS.out⟩
set_option maxRecDepth 100000 in
theorem bxMay_any (k n d : Bs) (l : Int) (w : World) : Calls Tryz.prog 93 #[.string ⟨k.toArray⟩, .string ⟨n.toArray⟩, .string ⟨d.toArray⟩, .int .i64 l] w fun e w2 => e = .returned (.bool (decide (k.length = 32 ∧ n.length = 12 ∧ d.length ≤ 4096 ∧ 0 ≤ l ∧ l ≤ 16384))) ∧ w = w2 := by
  go_enter Tryz.func93, Tryz.ntmps93
  go_wp2
  all_goals
    go_ret
    refine ⟨ret_bool ?_, rfl⟩
    rw [Bool.eq_iff_iff]
    simp
    first | done | omega
theorem may_open {k n d s : Bs} : decide (k.length = 32 ∧ n.length = 12 ∧ d.length ≤ 4096 ∧ 0 ≤ ((s.length : Int) - 16) ∧ ((s.length : Int) - 16) ≤ 16384) = decide (k.length = 32 ∧ n.length = 12 ∧ d.length ≤ 4096 ∧ 16 ≤ s.length ∧ s.length ≤ 16400) := by
  rw [decide_eq_decide]
  omega
theorem may_seal {k n d s : Bs} : decide (k.length = 32 ∧ n.length = 12 ∧ d.length ≤ 4096 ∧ 0 ≤ (s.length : Int) ∧ (s.length : Int) ≤ 16384) = decide (k.length = 32 ∧ n.length = 12 ∧ d.length ≤ 4096 ∧ s.length ≤ 16384) := by
  rw [decide_eq_decide]
  omega
set_option maxRecDepth 100000 in
set_option maxHeartbeats 2000000 in
theorem bxOpenS (k n d s : Bs) (hk : k.length ≤ 1000000) (hn : n.length ≤ 1000000) (hs : s.length ≤ 1000000) (S : Sp w0 F0 w (idealR b D T :: L)) :
    Calls Tryz.prog 62 #[.pointer (some ⟨b, 0, none⟩), .string ⟨k.toArray⟩, .string ⟨n.toArray⟩, .string ⟨d.toArray⟩, .string ⟨s.toArray⟩] w fun e w2 => e = .returned (.tuple #[.string ⟨(bxOpen uB T k n d s).1.toArray⟩, .int .i64 (bxOpen uB T k n d s).2]) ∧ Sp w0 F0 w2 (idealR b D T :: L) := by
  obtain ⟨m, S1⟩ := S.exOpen
  have S2 := S1.part
  have c0 := S2.cell
  have hs' : (s.length : Int) ≤ 1000000 := by omega
  have hl := fun W (SW : Sp w0 F0 W (boxR b #[.bool true, .string ⟨D.toArray⟩, .map (some m)] 102 :: mapR 134 encSe m T :: L)) => SW.pull1.map.lookOk (t := 100) bxuKeyed Tryz.underlying100 (zeroSe _) (bxuKey k n (by unfold maxLen; omega) (by unfold maxLen; omega))
  have hlk := hl w S2
  have HMAY := Lib.hid (bxMay_any k n d ((s.length : Int) - 16) w)
  rw [may_open] at HMAY
  have HS2 := Lib.hid S2
  have HV : Hid (bxOpen uB T k n d s = if k.length = 32 ∧ n.length = 12 ∧ d.length ≤ 4096 ∧ 16 ≤ s.length ∧ s.length ≤ 16400 then
    match T.get (uB k n) with
    | none => (([] : Bs), (20 : Int))
    | some x => if x.1 = d ∧ x.2.2 = s then (x.2.1, 0) else ([], 20)
  else (([] : Bs), (5 : Int))) := rfl
  clear S S1 S2 hl hk hn hs
  by_cases hm : k.length = 32 ∧ n.length = 12 ∧ d.length ≤ 4096 ∧ 16 ≤ s.length ∧ s.length ≤ 16400
  · rw [decide_eq_true hm] at HMAY
    rw [if_pos hm] at HV
    clear hm
    cases hg : T.get (uB k n) with
    | none =>
      rw [Mp.has_eq, hg] at hlk
      rw [hg] at HV
      have hlk' : (Instr.lookup 100 (.map (some m)) (.agg #[.string ⟨k.toArray⟩, .string ⟨n.toArray⟩]) true).run Tryz.prog w = .ok (.tuple #[.agg #[.string ⟨#[]⟩, .string ⟨#[]⟩, .string ⟨#[]⟩], .bool false]) w := hlk
      clear hlk hg
      go_enter Tryz.func62, Tryz.ntmps62
      go_wp2_with fail
      refine HMAY.out.mono ?_
      rintro e w1 ⟨rfl, rfl⟩
      go_wp2
      go_ret2
      rw [HV.out]
      exact ⟨rfl, (HS2.out.ext0 ((Ext.refl [] _).alloc _)).ideal⟩
    | some x =>
      obtain ⟨x1, x2, x3⟩ := x
      rw [Mp.has_eq, hg] at hlk
      rw [hg] at HV
      have hlk' : (Instr.lookup 100 (.map (some m)) (.agg #[.string ⟨k.toArray⟩, .string ⟨n.toArray⟩]) true).run Tryz.prog w = .ok (.tuple #[.agg #[.string ⟨x1.toArray⟩, .string ⟨x2.toArray⟩, .string ⟨x3.toArray⟩], .bool true]) w := hlk
      clear hlk hg
      dsimp only at HV
      by_cases h1 : x1 = d
      · by_cases h2 : x3 = s
        · rw [if_pos ⟨h1, h2⟩] at HV
          subst h1 h2
          go_enter Tryz.func62, Tryz.ntmps62
          go_wp2_with fail
          refine HMAY.out.mono ?_
          rintro e w1 ⟨rfl, rfl⟩
          go_wp2
          go_ret2
          rw [HV.out]
          exact ⟨rfl, (HS2.out.ext0 ((Ext.refl [] _).alloc _)).ideal⟩
        · rw [if_neg (fun h => h2 h.2)] at HV
          have hb2 : (x3 == s) = false := by simpa using h2
          subst h1
          go_enter Tryz.func62, Tryz.ntmps62
          go_wp2_with fail
          refine HMAY.out.mono ?_
          rintro e w1 ⟨rfl, rfl⟩
          go_wp2
          go_ret2
          rw [HV.out]
          exact ⟨rfl, (HS2.out.ext0 ((Ext.refl [] _).alloc _)).ideal⟩
      · rw [if_neg (fun h => h1 h.1)] at HV
        have hb1 : (x1 == d) = false := by simpa using h1
        go_enter Tryz.func62, Tryz.ntmps62
        go_wp2_with fail
        refine HMAY.out.mono ?_
        rintro e w1 ⟨rfl, rfl⟩
        go_wp2
        go_ret2
        rw [HV.out]
        exact ⟨rfl, (HS2.out.ext0 ((Ext.refl [] _).alloc _)).ideal⟩
  · rw [decide_eq_false hm] at HMAY
    rw [if_neg hm] at HV
    clear hm hlk
    go_enter Tryz.func62, Tryz.ntmps62
    go_wp2_with fail
    refine HMAY.out.mono ?_
    rintro e w1 ⟨rfl, rfl⟩
    go_wp2
    go_ret2
    rw [HV.out]
    exact ⟨rfl, HS2.out.ideal⟩
set_option maxRecDepth 100000 in
set_option maxHeartbeats 4000000 in
theorem bxSealS (k n d t : Bs) (hk : k.length ≤ 1000000) (hn : n.length ≤ 1000000) (ht : t.length ≤ 1000000) (hT : T.length ≤ 1000000) (S : Sp w0 F0 w (idealR b D T :: L)) :
    Calls Tryz.prog 60 #[.pointer (some ⟨b, 0, none⟩), .string ⟨k.toArray⟩, .string ⟨n.toArray⟩, .string ⟨d.toArray⟩, .string ⟨t.toArray⟩] w fun e w2 => e = .returned (.tuple #[.string ⟨(bxSeal uB T D k n d t).1.1.toArray⟩, .int .i64 (bxSeal uB T D k n d t).1.2]) ∧ Sp w0 F0 w2 (idealR b (bxSeal uB T D k n d t).2.1 (bxSeal uB T D k n d t).2.2 :: L) := by
  obtain ⟨m, S1⟩ := S.exOpen
  have S2 := S1.part
  have c0 := S2.cell
  have f0 := S2.free
  have l0 := S2.boxlt
  have ht' : (t.length : Int) ≤ 1000000 := by omega
  have hkey := bxuKey k n (by unfold maxLen; omega) (by unfold maxLen; omega)
  have hlk := S2.pull1.map.lookOk (t := 100) bxuKeyed Tryz.underlying100 (zeroSe _) hkey
  have HKEY := Lib.hid hkey
  have HMAY := Lib.hid (fun W => bxMay_any k n d (t.length : Int) W)
  rw [may_seal] at HMAY
  have HS2 := Lib.hid S2
  have HTL := Lib.hid hT
  have HV : Hid (bxSeal uB T D k n d t = if k.length = 32 ∧ n.length = 12 ∧ d.length ≤ 4096 ∧ t.length ≤ 16384 then
    match T.get (uB k n) with
    | some x => if x.1 = d ∧ x.2.1 = t then ((x.2.2, (0 : Int)), D, T) else ((([] : Bs), (11 : Int)), D, T)
    | none => if D.length < t.length + 16 then ((([] : Bs), (21 : Int)), D, T) else ((D.take (t.length + 16), (0 : Int)), D.drop (t.length + 16), T.put (uB k n) (d, t, D.take (t.length + 16)))
  else ((([] : Bs), (5 : Int)), D, T)) := rfl
  clear S S1 S2 hk hn ht hkey hT
  by_cases hm : k.length = 32 ∧ n.length = 12 ∧ d.length ≤ 4096 ∧ t.length ≤ 16384
  · rw [decide_eq_true hm] at HMAY
    rw [if_pos hm] at HV
    clear hm
    cases hg : T.get (uB k n) with
    | none =>
      rw [Mp.has_eq, hg] at hlk
      rw [hg] at HV
      have hlk' : (Instr.lookup 100 (.map (some m)) (.agg #[.string ⟨k.toArray⟩, .string ⟨n.toArray⟩]) true).run Tryz.prog w = .ok (.tuple #[.agg #[.string ⟨#[]⟩, .string ⟨#[]⟩, .string ⟨#[]⟩], .bool false]) w := hlk
      clear hlk hg
      dsimp only at HV
      by_cases h1 : D.length < t.length + 16
      · rw [if_pos h1] at HV
        have h1' : (D.length : Int) < t.length + 16 := by omega
        clear h1
        go_enter Tryz.func60, Tryz.ntmps60
        go_wp2_with fail
        refine (HMAY.out _).mono ?_
        rintro e w1 ⟨rfl, rfl⟩
        go_wp2
        go_ret2
        rw [HV.out]
        exact ⟨rfl, (HS2.out.ext0 ((Ext.refl [] _).alloc _)).ideal⟩
      · rw [if_neg h1] at HV
        have h1' : (t.length : Int) + 16 ≤ D.length := by omega
        obtain ⟨q, hq⟩ : ∃ q, q = t.length + 16 := ⟨_, rfl⟩
        have hq' : (t.length : Int) + 16 = q := by omega
        have hqD : (q : Int) ≤ D.length := by omega
        rw [← hq] at HV
        have hc0 := cut_head D q
        have hc1 := cut_tail D q D.length rfl
        have S4 := (HS2.out.set (o := 1) (.string ⟨(D.drop q).toArray⟩)).ext0 ((Ext.refl [] _).alloc (.cells #[.string ⟨#[]⟩, .string ⟨#[]⟩, .string ⟨#[]⟩] 131))
        obtain ⟨w5, hrun, S5, _⟩ := S4.pull1.mapPut (t := 100) bxuKeyed Tryz.underlying100 (by have := HTL.out; unfold maxLen; omega) HKEY.out ((d, t, D.take q) : Sealed3)
        have hrun' : (Instr.mapUpdate 100 (.map (some m)) (.agg #[.string ⟨k.toArray⟩, .string ⟨n.toArray⟩]) (.agg #[.string ⟨d.toArray⟩, .string ⟨t.toArray⟩, .string ⟨(D.take q).toArray⟩])).run Tryz.prog ((w.setCell ⟨b, 1, none⟩ (.string ⟨(D.drop q).toArray⟩)).alloc (.cells #[.string ⟨#[]⟩, .string ⟨#[]⟩, .string ⟨#[]⟩] 131)) = .ok () w5 := hrun
        have HS5 := Lib.hid S5.pull1
        clear S4 hrun S5 h1 hq
        go_enter Tryz.func60, Tryz.ntmps60
        go_wp2_with fail
        refine (HMAY.out _).mono ?_
        rintro e w1 ⟨rfl, rfl⟩
        go_wp2
        go_ret2
        rw [HV.out]
        exact ⟨rfl, HS5.out.ideal⟩
    | some x =>
      obtain ⟨x1, x2, x3⟩ := x
      rw [Mp.has_eq, hg] at hlk
      rw [hg] at HV
      have hlk' : (Instr.lookup 100 (.map (some m)) (.agg #[.string ⟨k.toArray⟩, .string ⟨n.toArray⟩]) true).run Tryz.prog w = .ok (.tuple #[.agg #[.string ⟨x1.toArray⟩, .string ⟨x2.toArray⟩, .string ⟨x3.toArray⟩], .bool true]) w := hlk
      clear hlk hg
      dsimp only at HV
      have HMW := Lib.hid (HMAY.out)
      by_cases h1 : x1 = d
      · by_cases h2 : x2 = t
        · rw [if_pos ⟨h1, h2⟩] at HV
          subst h1 h2
          go_enter Tryz.func60, Tryz.ntmps60
          go_wp2_with fail
          refine (HMAY.out _).mono ?_
          rintro e w1 ⟨rfl, rfl⟩
          go_wp2
          go_ret2
          rw [HV.out]
          exact ⟨rfl, (HS2.out.ext0 ((Ext.refl [] _).alloc _)).ideal⟩
        · rw [if_neg (fun h => h2 h.2)] at HV
          have hb2 : (x2 == t) = false := by simpa using h2
          subst h1
          go_enter Tryz.func60, Tryz.ntmps60
          go_wp2_with fail
          refine (HMAY.out _).mono ?_
          rintro e w1 ⟨rfl, rfl⟩
          go_wp2
          go_ret2
          rw [HV.out]
          exact ⟨rfl, (HS2.out.ext0 ((Ext.refl [] _).alloc _)).ideal⟩
      · rw [if_neg (fun h => h1 h.1)] at HV
        have hb1 : (x1 == d) = false := by simpa using h1
        go_enter Tryz.func60, Tryz.ntmps60
        go_wp2_with fail
        refine (HMAY.out _).mono ?_
        rintro e w1 ⟨rfl, rfl⟩
        go_wp2
        go_ret2
        rw [HV.out]
        exact ⟨rfl, (HS2.out.ext0 ((Ext.refl [] _).alloc _)).ideal⟩
  · rw [decide_eq_false hm] at HMAY
    rw [if_neg hm] at HV
    clear hm
    cases hg : T.get (uB k n) with
    | none =>
      rw [Mp.has_eq, hg] at hlk
      have hlk' : (Instr.lookup 100 (.map (some m)) (.agg #[.string ⟨k.toArray⟩, .string ⟨n.toArray⟩]) true).run Tryz.prog w = .ok (.tuple #[.agg #[.string ⟨#[]⟩, .string ⟨#[]⟩, .string ⟨#[]⟩], .bool false]) w := hlk
      clear hlk hg
      go_enter Tryz.func60, Tryz.ntmps60
      go_wp2_with fail
      refine (HMAY.out _).mono ?_
      rintro e w1 ⟨rfl, rfl⟩
      go_wp2
      go_ret2
      rw [HV.out]
      exact ⟨rfl, (HS2.out.ext0 ((Ext.refl [] _).alloc _)).ideal⟩
    | some x =>
      obtain ⟨x1, x2, x3⟩ := x
      rw [Mp.has_eq, hg] at hlk
      have hlk' : (Instr.lookup 100 (.map (some m)) (.agg #[.string ⟨k.toArray⟩, .string ⟨n.toArray⟩]) true).run Tryz.prog w = .ok (.tuple #[.agg #[.string ⟨x1.toArray⟩, .string ⟨x2.toArray⟩, .string ⟨x3.toArray⟩], .bool true]) w := hlk
      clear hlk hg
      go_enter Tryz.func60, Tryz.ntmps60
      go_wp2_with fail
      refine (HMAY.out _).mono ?_
      rintro e w1 ⟨rfl, rfl⟩
      go_wp2
      go_ret2
      rw [HV.out]
      exact ⟨rfl, (HS2.out.ext0 ((Ext.refl [] _).alloc _)).ideal⟩
end
end Go.Proofs.YtkenacggjffjnaaGreatDoor
