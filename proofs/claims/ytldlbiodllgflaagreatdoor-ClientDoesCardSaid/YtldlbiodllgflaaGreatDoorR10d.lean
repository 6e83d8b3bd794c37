/- The document's answer for layer 10: a command's line. Conditions: the lengths fit. The document's answer for layer 10: Write. Conditions: the lengths fit. -/
import Derived.Test.YtldlbiodllgflaaGreatDoorR09
import Derived.Test.YtldlbiodllgflaaGreatDoorR10
import Derived.Test.YtldlbiodllgflaaGreatDoorCmS
import Derived.Deep.RegionLaw
import Derived.Deep.DeepCutAuto
/-! R10d -/
set_option linter.unusedSimpArgs false
set_option linter.unusedVariables false
set_option linter.unnecessarySimpa false
namespace Go.Proofs.YtldlbiodllgflaaGreatDoor
open Go.RowKit

section
variable {w0 w : World} {F0 : List Nat} {L : List Res}
theorem Sp.textsMade (S : Sp w0 F0 w L) (l : List Bs) (hl : l.length ≤ maxLen) : Sp w0 F0 (w.alloc (.cells (l.map encStr).toArray 9)) (textsR (.slice (some ⟨w.heap.size, 0, none⟩) l.length l.length) l :: L) :=
  S.gain (G := [w.heap.size]) ((Ext.refl [] w).alloc _) ⟨rfl, by simp, .inr ⟨w.heap.size, l.length, (l.map encStr).toArray, rfl, Nat.zero_le _, (MapKept.heap_alloc w _).1, Nat.le_refl _, hl, by simp, by simp [← List.map_take]⟩⟩ (by simp)
set_option maxRecDepth 100000 in
theorem r10VerbsS (S : Sp w0 F0 w L) : Calls Tryz.prog 89 #[] w fun e w2 => ∃ g, e = .returned (.slice (some ⟨g, 0, none⟩) 10 10) ∧ Sp w0 F0 w2 (textsR (.slice (some ⟨g, 0, none⟩) 10 10) verbWs :: L) := by
  have HS0 := Lib.hid (S.textsMade verbWs (by decide))
  clear S
  go_enter Tryz.func89, Tryz.ntmps89
  go_wp2
  go_ret
  exact ⟨_, rfl, HS0.out⟩
set_option maxRecDepth 100000 in
set_option maxHeartbeats 1000000 in
theorem r10None_any (c : Cm) (w : World) (h1 : c.box.1.length ≤ 1000000) (h2 : c.box.2.length ≤ 1000000) : Calls Tryz.prog 92 #[cmAgg c] w fun e w2 => e = .returned (.bool (noBox c.box && !c.eight)) ∧ Ext [] w w2 := by
  obtain ⟨v, t, ⟨l, d⟩, z, b8⟩ := c
  dsimp only at h1 h2 ⊢
  have h1' : (l.length : Int) ≤ 1000000 := by omega
  have h2' : (d.length : Int) ≤ 1000000 := by omega
  have HX : Hid (Ext [] w (w.alloc (.cells #[.int .i64 v, .string ⟨t.toArray⟩, .string ⟨l.toArray⟩, .string ⟨d.toArray⟩, .int .i64 z, .bool b8] 80))) := (Ext.refl [] w).alloc _
  unfold cmAgg
  dsimp only
  have HN : Hid (noBox (l, d) = ((l.length : Int) + d.length == 0)) := by
    unfold Hid noBox noBoxE
    rw [Bool.eq_iff_iff]
    simp only [Bool.and_eq_true, beq_iff_eq]
    constructor
    · rintro ⟨rfl, rfl⟩; rfl
    · intro h
      exact ⟨List.eq_nil_of_length_eq_zero (by omega), List.eq_nil_of_length_eq_zero (by omega)⟩
  rw [HN.out]
  cases hs : ((l.length : Int) + d.length == 0) with
  | true =>
    go_enter Tryz.func92, Tryz.ntmps92
    go_wp2
    go_ret
    exact ⟨rfl, HX.out⟩
  | false =>
    go_enter Tryz.func92, Tryz.ntmps92
    go_wp2
    go_ret
    exact ⟨rfl, HX.out⟩
theorem trimR_cons (x : UInt8) (r : Bs) : Lib.trimRightB (x :: r) 32 = if Lib.trimRightB r 32 = [] then (if x = 32 then [] else [x]) else x :: Lib.trimRightB r 32 := by
  unfold Lib.trimRightB
  rw [List.reverse_cons, List.dropWhile_append]
  by_cases h : (List.dropWhile (fun b => b == 32) r.reverse) = []
  · rw [h, if_pos (by simp), if_pos (by simp)]
    by_cases hx : x = 32
    · subst hx; simp
    · rw [if_neg hx]; simp [hx]
  · rw [if_neg (by simpa using h), if_neg (by simpa using h)]
    simp
theorem trim_turn : ∀ s : Bs, Lib.trimLeftB (Lib.trimRightB s 32) 32 = Lib.trimRightB (Lib.trimLeftB s 32) 32
  | [] => rfl
  | x :: r => by
    have ih := trim_turn r
    rw [trimR_cons]
    by_cases hx : x = 32
    · subst hx
      rw [show Lib.trimLeftB (32 :: r) 32 = Lib.trimLeftB r 32 from spR_cons r, ← ih]
      by_cases h : Lib.trimRightB r 32 = []
      · rw [if_pos h, if_pos rfl, h]
      · rw [if_neg h]
        exact spR_cons _
    · rw [show Lib.trimLeftB (x :: r) 32 = x :: r from spR_stop hx r, trimR_cons, if_neg hx]
      by_cases h : Lib.trimRightB r 32 = []
      · rw [if_pos h]
        exact spR_stop hx _
      · rw [if_neg h]
        exact spR_stop hx _
theorem trimR_spc (s : Bs) : Lib.trimRightB (s ++ [32]) 32 = Lib.trimRightB s 32 := trimR_app s 1
/-- A text's length, of its value. -/
def strN : Value → Nat | .string s => s.size | _ => 0
theorem spR_not {t : Bs} (h : ∀ c, t.head? = some c → c ≠ 32) : spR t = t := by
  cases t with
  | nil => rfl
  | cons c r => exact spR_stop (h c rfl) r
set_option maxRecDepth 100000 in
set_option maxHeartbeats 1000000 in
theorem r10Trimmed_any (s : Bs) (w : World) (hs : s.length ≤ 1000000) : Calls Tryz.prog 91 #[.string ⟨s.toArray⟩] w fun e w2 => e = .returned (.string ⟨(trimSp s).toArray⟩) ∧ w = w2 := by
  have HV : Hid (trimSp s = Lib.trimRightB (spR s) 32) := by unfold Hid trimSp spR Lib.trimB; exact trim_turn s
  go_enter Tryz.func91, Tryz.ntmps91
  go_wp2_with fail
  go_loopw [0] (fun v wr => ∃ t : Bs, v = .string ⟨t.toArray⟩ ∧ t.length ≤ 1000000 ∧ spR t = spR s ∧ w = wr) (fun v _ => strN v)
  case atStart => exact ⟨s, rfl, hs, rfl, rfl⟩
  case round =>
    obtain ⟨t, rfl, ht, hsp, rfl⟩ := hrel
    have HSPR := Lib.hid hsp
    have ht' : (t.length : Int) ≤ 1000000 := by omega
    clear hsp hs
    by_cases hg : t.head? = some 32
    · obtain ⟨r, rfl⟩ : ∃ r, t = 32 :: r := by
        cases t with
        | nil => cases hg
        | cons c r => exact ⟨r, by rw [Option.some.inj hg]⟩
      have hix := fun w => idx_at (32 :: r) 0 (by simp) 0 rfl w
      have hpos : (0 : Int) < (32 :: r : Bs).length := by simp only [List.length_cons]; omega
      have hle1 : (1 : Int) ≤ (32 :: r : Bs).length := by simp only [List.length_cons]; omega
      have hcut := cut_drop (32 :: r) 1 (by simp)
      have HN : Hid (spR r = spR s) := by unfold Hid; rw [← HSPR.out, spR_cons]
      have HL : Hid (r.length ≤ 1000000) := by simp at ht; unfold Hid; omega
      have HM : Hid (r.length < (32 :: r : Bs).length) := by unfold Hid; simp
      rw [List.drop_succ_cons, List.drop_zero] at hcut
      have h32 : ((32 :: r : Bs)[0]).toNat = 32 := rfl
      rw [h32] at hix
      clear h32
      generalize (32 :: r : Bs) = t at *
      clear hg
      go_wp2
      go_roundw
      case rel => exact ⟨r, rfl, HL.out, HN.out, by trivial⟩
      case measure => exact HM.out
    · have HT : Hid (t = spR s) := by
        unfold Hid
        rw [← HSPR.out]
        exact (spR_not fun c hc e => hg (by rw [hc, e])).symm
      have hor : ((t.length : Int) = 0) ∨ (∃ c : UInt8, (0 : Int) < t.length ∧ (∀ w, (Instr.index 9 (.string ⟨t.toArray⟩) (.int .i64 0)).run Tryz.prog w = .ok (.int .u8 (c.toNat : Int)) w) ∧ ((c.toNat : Int) == 32) = false) := by
        cases t with
        | nil => exact .inl rfl
        | cons c r =>
          refine .inr ⟨c, by simp only [List.length_cons]; omega, fun w => idx_at (c :: r) 0 (by simp) 0 rfl w, ?_⟩
          rw [show ((c.toNat : Int) == 32) = (c == 32) from eq_u8b c 32]
          simp only [beq_eq_false_iff_ne]
          intro e
          exact hg (by rw [e]; rfl)
      have HTL : Hid (t.length ≤ 1000000) := ht
      clear hg
      rcases hor with h0 | ⟨c, h0, hix0, hc0⟩
      all_goals
        go_wp2_with fail
        first | clear h0 hix0 hc0 | clear h0
        go_loopw [0] (fun v wr => ∃ x : Bs, v = .string ⟨x.toArray⟩ ∧ x.length ≤ 1000000 ∧ Lib.trimRightB x 32 = trimSp s ∧ w = wr) (fun v _ => strN v)
        case atStart => exact ⟨t, rfl, HTL.out, by rw [HV.out, HT.out], rfl⟩
        case round =>
          obtain ⟨x, rfl, hx, htr, rfl⟩ := hrel
          have HTR := Lib.hid htr
          have hx' : (x.length : Int) ≤ 1000000 := by omega
          clear htr ht ht'
          rcases snoc_cases x with rfl | ⟨A, c, rfl⟩
          · have HR : Hid (trimSp s = []) := HTR.out.symm
            go_wp2
            go_ret
            rw [HR.out]
            exact ⟨rfl, rfl⟩
          · have hpos : (0 : Int) < (A ++ [c]).length := by rw [List.length_append, List.length_singleton]; omega
            have hix := fun w => idx_at (A ++ [c]) A.length (by simp) (((A ++ [c]).length : Int) - 1) (by simp) w
            have hgc : (A ++ [c])[A.length]'(by simp) = c := by simp
            rw [hgc] at hix
            clear hgc
            have hcut := cut_take (A ++ [c]) ((A ++ [c]).length - 1)
            have htk : (A ++ [c]).take ((A ++ [c]).length - 1) = A := by simp
            rw [htk] at hcut
            have hle : ((A ++ [c]).length : Int) - 1 ≤ (A ++ [c]).length := by omega
            have hge : (0 : Int) ≤ ((A ++ [c]).length : Int) - 1 := by omega
            have hsub : ((A ++ [c]).length : Int) - 1 = (((A ++ [c]).length - 1 : Nat) : Int) := by simp
            have HL : Hid (A.length ≤ 1000000) := by simp at hx; unfold Hid; omega
            have HM : Hid (A.length < (A ++ [c]).length) := by unfold Hid; simp
            by_cases hc : c = 32
            · subst hc
              have HN : Hid (Lib.trimRightB A 32 = trimSp s) := by unfold Hid; rw [← trimR_spc]; exact HTR.out
              have h32 : (32 : UInt8).toNat = 32 := rfl
              rw [h32] at hix
              generalize (A ++ [32]) = x at *
              rw [hsub] at hix hle hge
              generalize x.length - 1 = m at *
              clear htk
              go_wp2
              go_roundw
              case rel => exact ⟨A, rfl, HL.out, HN.out, by trivial⟩
              case measure => exact HM.out
            · have HR : Hid (trimSp s = A ++ [c]) := by
                unfold Hid
                rw [← HTR.out]
                exact trimR_of_last _ fun d hd => by
                  rw [List.getLast?_concat] at hd
                  rw [← Option.some.inj hd]
                  exact hc
              have hcb : ((c.toNat : Int) == 32) = false := by
                rw [show ((c.toNat : Int) == 32) = (c == 32) from eq_u8b c 32]
                simpa using hc
              generalize (A ++ [c]) = x at *
              clear htk hcut hc
              rw [hsub] at hix hle hge
              generalize x.length - 1 = m at *
              go_wp2
              go_ret
              rw [HR.out]
              exact ⟨rfl, rfl⟩
end
end Go.Proofs.YtldlbiodllgflaaGreatDoor

/-! R10e -/
namespace Go.Proofs.YtldlbiodllgflaaGreatDoor
open Go.RowKit

section
variable {w0 w : World} {F0 : List Nat} {L : List Res} {g : Nat}
theorem verbs_at {v : Nat} (S : Sp w0 F0 w (textsR (.slice (some ⟨g, 0, none⟩) 10 10) verbWs :: L)) (h : v < 10) : w.cell? ⟨g, v, none⟩ = some (.string ⟨((verbWs[v]?).getD []).toArray⟩) := by
  obtain ⟨b, off, e, hc⟩ := S.tx.at (i := v) (show v < verbWs.length from h)
  have hv : verbWs[v]? = some (verbWs[v]'h) := List.getElem?_eq_getElem h
  rw [hv]
  have hoff : off = 0 ∧ b = g := by
    obtain ⟨a2, cap2, h1, h2, h3⟩ := S.tx
    cases h1
    cases e
    exact ⟨rfl, rfl⟩
  obtain ⟨rfl, rfl⟩ := hoff
  rw [Nat.zero_add] at hc
  exact hc
/-- May a command's text be, with nothing beside? -/
theorem saidC_parts (v : Int) (t : Bs) (l d : Bs) (z : Int) (b : Bool) : saidC ⟨v, t, (l, d), z, b⟩ = (printB t && (trimSp t == t && (noBox (l, d) && !b))) := rfl
theorem besideC_1 {v : Int} (t l d : Bs) (z : Int) (b : Bool) (h : v = 1 ∨ v = 2) : besideC ⟨v, t, (l, d), z, b⟩ = (32 :: t, (domV t).2 == 0 && ((domV t).1 == t && (noBox (l, d) && !b))) := by
  unfold besideC; rw [if_pos h]; rfl
theorem besideC_3 {v : Int} (t l d : Bs) (z : Int) (b : Bool) (h : v = 3) : besideC ⟨v, t, (l, d), z, b⟩ = (fromW ++ (mbPath (l, d)).1 ++ (if 0 ≤ z then sizeW ++ Lib.decDigits z.toNat else []) ++ (if b then bodyW else []),
   (mbPath (l, d)).2 == 0 && (t == [] && (decide (-1 ≤ z) && decide (z ≤ 999999999999)))) := by
  subst h; rfl
theorem besideC_4 {v : Int} (t l d : Bs) (z : Int) (b : Bool) (h : v = 4) : besideC ⟨v, t, (l, d), z, b⟩ = (toW ++ (mbPath (l, d)).1, (mbPath (l, d)).2 == 0 && (!noBox (l, d) && (t == [] && !b))) := by
  subst h; rfl
theorem besideC_9 {v : Int} (t l d : Bs) (z : Int) (b : Bool) (h : v = 9) : besideC ⟨v, t, (l, d), z, b⟩ = (32 :: t, saidC ⟨v, t, (l, d), z, b⟩ && !(t == [])) := by
  subst h; rfl
theorem besideC_7 {v : Int} (t l d : Bs) (z : Int) (b : Bool) (h : v = 7) : besideC ⟨v, t, (l, d), z, b⟩ = (if t = [] then ([], saidC ⟨v, t, (l, d), z, b⟩) else (32 :: t, saidC ⟨v, t, (l, d), z, b⟩)) := by
  subst h
  show (if t = [] then ([], bareC _) else (32 :: t, saidC _)) = _
  by_cases ht : t = []
  · subst ht; rfl
  · rw [if_neg ht, if_neg ht]
theorem besideC_5 {v : Int} (t l d : Bs) (z : Int) (b : Bool) (h : v = 5 ∨ v = 6 ∨ v = 8) : besideC ⟨v, t, (l, d), z, b⟩ = ([], t == [] && (noBox (l, d) && !b)) := by
  unfold besideC
  dsimp only
  rw [if_neg (by omega), if_neg (by omega), if_neg (by omega), if_neg (by omega), if_neg (by omega)]
  rfl
theorem mbPath_no {b : Mb} (h : (mbPath b).2 = 0) : ((mbPath b).1 == [60, 62]) = noBox b := by
  unfold noBox noBoxE
  unfold mbPath at h ⊢
  split
  · rename_i hb; rw [hb]; rfl
  · rename_i hb
    rw [if_neg hb] at h
    have hb' : (b.1 == [] && b.2 == []) = false := by simpa using hb
    rw [hb']
    split
    · rw [beq_eq_false_iff_ne]
      intro e
      have := congrArg List.length e
      unfold mbText at this
      simp at this
      omega
    · rename_i hm
      rw [if_neg hm] at h
      cases h
set_option maxRecDepth 100000 in
set_option maxHeartbeats 8000000 in
theorem r10WriteS (c : Cm) (S : Sp w0 F0 w L) (ht : c.text.length ≤ 1000000) (h1 : c.box.1.length ≤ 1000000) (h2 : c.box.2.length ≤ 1000000) (hz1 : -9223372036854775808 ≤ c.size) (hz2 : c.size ≤ 9223372036854775807) :
    Calls Tryz.prog 73 #[cmAgg c] w fun e w2 => e = .returned (.tuple #[.string ⟨(cmWrite c).1.toArray⟩, .int .i64 (cmWrite c).2]) ∧ Sp w0 F0 w2 L := by
  obtain ⟨v, t, ⟨l, d⟩, z, b8⟩ := c
  have HS0 := Lib.hid (S.box (cmCells ⟨v, t, (l, d), z, b8⟩) 80)
  have HC : Hid (∀ c : Cm, cmWrite c = if c.verb < 1 ∨ 9 < c.verb then ([], 1) else if (besideC c).2 then ((verbWs[c.verb.toNat]?).getD [] ++ (besideC c).1, 0) else ([], 2)) := fun _ => rfl
  have HT := Lib.hid ht
  have H1 := Lib.hid h1
  have H2 := Lib.hid h2
  have HZ1 := Lib.hid hz1
  have HZ2 := Lib.hid hz2
  have HNO := Lib.hid (fun w' => r10None_any ⟨v, t, (l, d), z, b8⟩ w' h1 h2)
  unfold cmAgg at HNO ⊢
  unfold cmCells at HS0
  dsimp only at *
  clear S ht h1 h2 hz1 hz2
  by_cases hv1 : v < 1
  · have HV : Hid (cmWrite ⟨v, t, (l, d), z, b8⟩ = ([], 1)) := by unfold Hid; rw [HC.out, if_pos (.inl hv1)]
    go_enter Tryz.func73, Tryz.ntmps73
    go_wp2
    go_ret2
    rw [HV.out]
    exact ⟨rfl, HS0.out.drop⟩
  by_cases hv9 : 9 < v
  · have HV : Hid (cmWrite ⟨v, t, (l, d), z, b8⟩ = ([], 1)) := by unfold Hid; rw [HC.out, if_pos (.inr hv9)]
    go_enter Tryz.func73, Tryz.ntmps73
    go_wp2
    go_ret2
    rw [HV.out]
    exact ⟨rfl, HS0.out.drop⟩
  have HV : Hid (cmWrite ⟨v, t, (l, d), z, b8⟩ = if (besideC ⟨v, t, (l, d), z, b8⟩).2 then ((verbWs[v.toNat]?).getD [] ++ (besideC ⟨v, t, (l, d), z, b8⟩).1, 0) else ([], 2)) := by
    unfold Hid
    rw [HC.out, if_neg (by dsimp only; omega)]
  obtain ⟨n, rfl⟩ : ∃ n : Nat, v = n := ⟨v.toNat, by omega⟩
  have hn1 : (1 : Int) ≤ n := by omega
  have hn9 : (n : Int) ≤ 9 := by omega
  have hn10 : (n : Int) < 10 := by omega
  clear hv1 hv9 HC
  rw [Int.toNat_natCast] at HV
  generalize hvw : (verbWs[n]?).getD [] = vw at HV
  have HVW := Lib.hid hvw
  clear hvw
  go_enter Tryz.func73, Tryz.ntmps73
  go_wp2_with fail
  generalize w.alloc (.cells #[.int .i64 n, .string ⟨t.toArray⟩, .string ⟨l.toArray⟩, .string ⟨d.toArray⟩, .int .i64 z, .bool b8] 80) = w1 at *
  generalize w.heap.size = q at *
  go_cut [4] (fun x wx => x = .string ⟨vw.toArray⟩ ∧ Sp w0 F0 wx (boxR q #[.int .i64 n, .string ⟨t.toArray⟩, .string ⟨l.toArray⟩, .string ⟨d.toArray⟩, .int .i64 z, .bool b8] 80 :: L))
  case first => --dev
    have c1 := HS0.out.drew.cell
    go_region_with (go_at_call 89; refine (r10VerbsS HS0.out.drew).mono ?_; rintro e w2 ⟨g, rfl, S2⟩; have c2 := S2.pull1.cell; have k2 := verbs_at (v := n) S2 (by omega); rw [HVW.out] at k2; have HS2 := Lib.hid S2; clear S2)
    all_goals
      go_wp2_with fail
      go_meet
      exact ⟨rfl, HS2.out.drop⟩
  case rest =>
    obtain ⟨rfl, S3⟩ := hcut
    have HS3 := Lib.hid S3
    clear S3 HS0
    have HSD : Hid (saidC ⟨n, t, (l, d), z, b8⟩ = (printB t && (trimSp t == t && (noBox (l, d) && !b8)))) := saidC_parts n t l d z b8
    generalize hsd : saidC ⟨n, t, (l, d), z, b8⟩ = sd at HSD
    have HSAID := Lib.hid hsd
    clear hsd
    go_upto_region 4 with (fail)
    go_cut [5] (fun x wx => x = .bool sd ∧ Sp w0 F0 wx (boxR q #[.int .i64 n, .string ⟨t.toArray⟩, .string ⟨l.toArray⟩, .string ⟨d.toArray⟩, .int .i64 z, .bool b8] 80 :: L))
    case first => --dev
      cases hp : printB t with
      | false =>
        have HP := Lib.hid hp
        have HSV : Hid (sd = false) := by unfold Hid; rw [HSD.out, hp]; rfl
        clear hp
        refine wp_region_text (S := fun wx => Sp w0 F0 wx (boxR q #[.int .i64 n, .string ⟨t.toArray⟩, .string ⟨l.toArray⟩, .string ⟨d.toArray⟩, .int .i64 z, .bool b8] 80 :: L) ∧ (∀ o, wx.cell? ⟨q, o, none⟩ = (#[.int .i64 n, .string ⟨t.toArray⟩, .string ⟨l.toArray⟩, .string ⟨d.toArray⟩, .int .i64 z, .bool b8])[o]?)) (by kernel_rfl) (by kernel_rfl) ⟨(HS3.out).drew, (Sp.pick [_] [0] (by decide) ((HS3.out).drew)).cell⟩ ?_
        repeat
          refine Exists.intro ?_ (And.intro (fun wS hS K hK => ?_) (And.intro ?_ ?_))
          rotate_left 1
          · obtain ⟨hS1, hS2⟩ := hS
            first
              | (refine if_unwanted rfl ?_; simp only [Act.put, List.setIfInBounds_toArray, List.set_cons_zero, List.set_cons_succ]; exact hK.out _ ⟨hS1, hS2⟩)
              | (refine if_wanted rfl ?_; go_simp; exact hK.out _ ⟨hS1, hS2⟩)
              | (refine if_wanted rfl ?_; go_simp; go_at_call 90; refine ((r10Printed_any t _ HT.out).mono (fun e w2 h => And.intro h.1 (h.2 ▸ hS1))).mono ?_; rw [HP.out]; rintro e w12 ⟨rfl, S12⟩; exact hK.out _ ⟨S12, (Sp.pick [_] [0] (by decide) (S12)).cell⟩)
          · rfl
        intro wE hE
        have HSE := Lib.hid hE.1
        clear hE
        go_wp2_with fail
        go_meet
        exact ⟨by rw [HSV.out], HSE.out⟩
      | true =>
        have HP := Lib.hid hp
        by_cases ht : trimSp t = t
        · have HSV : Hid (sd = (noBox (l, d) && !b8)) := by unfold Hid; rw [HSD.out, hp, ht]; simp
          have ht1 : (trimSp t == t) = true := by simpa using ht
          clear hp ht
          refine wp_region_text (S := fun wx => Sp w0 F0 wx (boxR q #[.int .i64 n, .string ⟨t.toArray⟩, .string ⟨l.toArray⟩, .string ⟨d.toArray⟩, .int .i64 z, .bool b8] 80 :: L) ∧ (∀ o, wx.cell? ⟨q, o, none⟩ = (#[.int .i64 n, .string ⟨t.toArray⟩, .string ⟨l.toArray⟩, .string ⟨d.toArray⟩, .int .i64 z, .bool b8])[o]?)) (by kernel_rfl) (by kernel_rfl) ⟨(HS3.out).drew, (Sp.pick [_] [0] (by decide) ((HS3.out).drew)).cell⟩ ?_
          repeat
            refine Exists.intro ?_ (And.intro (fun wS hS K hK => ?_) (And.intro ?_ ?_))
            rotate_left 1
            · obtain ⟨hS1, hS2⟩ := hS
              first
                | (refine if_unwanted rfl ?_; simp only [Act.put, List.setIfInBounds_toArray, List.set_cons_zero, List.set_cons_succ]; exact hK.out _ ⟨hS1, hS2⟩)
                | (refine if_wanted rfl ?_; go_simp; exact hK.out _ ⟨hS1, hS2⟩)
                | (refine if_wanted rfl ?_; go_simp; go_at_call 90; refine ((r10Printed_any t _ HT.out).mono (fun e w2 h => And.intro h.1 (h.2 ▸ hS1))).mono ?_; rw [HP.out]; rintro e w12 ⟨rfl, S12⟩; exact hK.out _ ⟨S12, (Sp.pick [_] [0] (by decide) (S12)).cell⟩)
                | (refine if_wanted rfl ?_; go_simp; go_at_call 91; refine ((r10Trimmed_any t _ HT.out).mono (fun e w2 h => And.intro h.1 (h.2 ▸ hS1))).mono ?_; rintro e w12 ⟨rfl, S12⟩; exact hK.out _ ⟨S12, (Sp.pick [_] [0] (by decide) (S12)).cell⟩)
                | (refine if_wanted rfl ?_; go_simp; go_at_call 92; refine ((HNO.out _).mono (fun e w2 h => And.intro h.1 (hS1.ext0 h.2))).mono ?_; rintro e w12 ⟨rfl, S12⟩; exact hK.out _ ⟨S12, (Sp.pick [_] [0] (by decide) (S12)).cell⟩)
            · rfl
          intro wE hE
          have HSE := Lib.hid hE.1
          clear hE
          go_wp2_with fail
          go_meet
          exact ⟨by rw [HSV.out], HSE.out⟩
        · have HSV : Hid (sd = false) := by
            unfold Hid
            rw [HSD.out, show (trimSp t == t) = false from by simpa using ht]
            simp
          have ht1 : (trimSp t == t) = false := by simpa using ht
          clear hp ht
          refine wp_region_text (S := fun wx => Sp w0 F0 wx (boxR q #[.int .i64 n, .string ⟨t.toArray⟩, .string ⟨l.toArray⟩, .string ⟨d.toArray⟩, .int .i64 z, .bool b8] 80 :: L) ∧ (∀ o, wx.cell? ⟨q, o, none⟩ = (#[.int .i64 n, .string ⟨t.toArray⟩, .string ⟨l.toArray⟩, .string ⟨d.toArray⟩, .int .i64 z, .bool b8])[o]?)) (by kernel_rfl) (by kernel_rfl) ⟨(HS3.out).drew, (Sp.pick [_] [0] (by decide) ((HS3.out).drew)).cell⟩ ?_
          repeat
            refine Exists.intro ?_ (And.intro (fun wS hS K hK => ?_) (And.intro ?_ ?_))
            rotate_left 1
            · obtain ⟨hS1, hS2⟩ := hS
              first
                | (refine if_unwanted rfl ?_; simp only [Act.put, List.setIfInBounds_toArray, List.set_cons_zero, List.set_cons_succ]; exact hK.out _ ⟨hS1, hS2⟩)
                | (refine if_wanted rfl ?_; go_simp; exact hK.out _ ⟨hS1, hS2⟩)
                | (refine if_wanted rfl ?_; go_simp; go_at_call 90; refine ((r10Printed_any t _ HT.out).mono (fun e w2 h => And.intro h.1 (h.2 ▸ hS1))).mono ?_; rw [HP.out]; rintro e w12 ⟨rfl, S12⟩; exact hK.out _ ⟨S12, (Sp.pick [_] [0] (by decide) (S12)).cell⟩)
                | (refine if_wanted rfl ?_; go_simp; go_at_call 91; refine ((r10Trimmed_any t _ HT.out).mono (fun e w2 h => And.intro h.1 (h.2 ▸ hS1))).mono ?_; rintro e w12 ⟨rfl, S12⟩; exact hK.out _ ⟨S12, (Sp.pick [_] [0] (by decide) (S12)).cell⟩)
            · rfl
          intro wE hE
          have HSE := Lib.hid hE.1
          clear hE
          go_wp2_with fail
          go_meet
          exact ⟨by rw [HSV.out], HSE.out⟩
    case rest =>
      obtain ⟨rfl, S4⟩ := hcut
      have HS4 := Lib.hid S4
      have c4 := S4.cell
      clear S4 HS3 HSD
      have HPS := Lib.hid (mbPath_short (l, d))
      have HNB := Lib.hid (fun h => mbPath_no (b := (l, d)) h)
      have HVL : Hid (vw.length ≤ 10) := by
        have : ∀ n : Fin 10, ((verbWs[n.val]?).getD []).length ≤ 10 := by decide
        have := this ⟨n, by omega⟩
        rw [HVW.out] at this
        exact this
      go_wp2_with fail
      refine (r09PathS (l, d) HS4.out H1.out H2.out).mono ?_
      have HB3 := Lib.hid (fun h => besideC_3 (v := n) t l d z b8 h)
      have HB4 := Lib.hid (fun h => besideC_4 (v := n) t l d z b8 h)
      generalize mbPath (l, d) = pp at *
      obtain ⟨p, pe⟩ := pp
      dsimp only at *
      have HPT : Hid (p.length ≤ 4000000) := by
        have h1 := HPS.out
        have h2 := H1.out
        have h3 := H2.out
        unfold Hid
        omega
      rintro e w5 ⟨rfl, S5⟩
      have HS5 := Lib.hid S5
      have c5 := S5.cell
      have htl : (t.length : Int) ≤ 1000000 := by have := HT.out; omega
      clear S5 c4 HS4 HPS
      rcases (show n = 1 ∨ n = 2 ∨ n = 3 ∨ n = 4 ∨ n = 5 ∨ n = 6 ∨ n = 7 ∨ n = 8 ∨ n = 9 by omega) with rfl | rfl | rfl | rfl | rfl | rfl | rfl | rfl | rfl
      case inl =>
        have HBV : Hid (besideC ⟨_, t, (l, d), z, b8⟩ = _) := besideC_1 (v := ((1 : Nat) : Int)) t l d z b8 (by decide)
        go_wp2_with fail
        refine (r09DomainS t HS5.out HT.out).mono ?_
        generalize domV t = dv at *
        obtain ⟨dt, de⟩ := dv
        dsimp only at *
        rintro e w6 ⟨rfl, S6⟩
        have HS6 := Lib.hid S6
        have c6 := S6.cell
        clear S6 HS5 c5
        by_cases hde : de = 0
        · subst hde
          by_cases hdt : dt = t
          · subst hdt
            have hb1 : (dt == dt) = true := by simp
            have hb2 : (dt != dt) = false := by simp
            have hb3 : ((0 : Int) == 0 && (dt == dt && (noBox (l, d) && !b8))) = (noBox (l, d) && !b8) := by simp
            rw [hb3] at HBV
            clear hb3
            go_wp2_with fail
            refine (HNO.out _).mono ?_
            generalize (noBox (l, d) && !b8) = nn at *
            rintro e w7 ⟨rfl, hx⟩
            have HS7 := Lib.hid (HS6.out.ext0 hx)
            have c7 := (HS6.out.ext0 hx).cell
            clear hx HS6 c6
            cases nn with
            | true =>
              have a1 := add_str vw [32] (by have := HVL.out; simp [maxLen]; omega)
              have a2 := add_str (vw ++ [32]) dt (by have := HVL.out; have := HT.out; simp [maxLen]; omega)
              go_wp2
              go_ret2
              rw [HV.out, HBV.out]
              exact ⟨by simp, HS7.out.drop⟩
            | false =>
              go_wp2
              go_ret2
              rw [HV.out, HBV.out]
              exact ⟨rfl, HS7.out.drop⟩
          · have hb1 : (dt == t) = false := by simpa using hdt
            have hb2 : (dt != t) = true := by simpa using hdt
            rw [hb1] at HBV
            clear hdt
            go_wp2
            go_ret2
            rw [HV.out, HBV.out]
            exact ⟨rfl, HS6.out.drop⟩
        · have hb1 : (de == 0) = false := by simpa using hde
          have hb2 : (de != 0) = true := by simpa using hde
          rw [hb1] at HBV
          clear hde
          go_wp2
          go_ret2
          rw [HV.out, HBV.out]
          exact ⟨rfl, HS6.out.drop⟩
      case inr.inl =>
        have HBV : Hid (besideC ⟨_, t, (l, d), z, b8⟩ = _) := besideC_1 (v := ((2 : Nat) : Int)) t l d z b8 (by decide)
        go_wp2_with fail
        refine (r09DomainS t HS5.out HT.out).mono ?_
        generalize domV t = dv at *
        obtain ⟨dt, de⟩ := dv
        dsimp only at *
        rintro e w6 ⟨rfl, S6⟩
        have HS6 := Lib.hid S6
        have c6 := S6.cell
        clear S6 HS5 c5
        by_cases hde : de = 0
        · subst hde
          by_cases hdt : dt = t
          · subst hdt
            have hb1 : (dt == dt) = true := by simp
            have hb2 : (dt != dt) = false := by simp
            have hb3 : ((0 : Int) == 0 && (dt == dt && (noBox (l, d) && !b8))) = (noBox (l, d) && !b8) := by simp
            rw [hb3] at HBV
            clear hb3
            go_wp2_with fail
            refine (HNO.out _).mono ?_
            generalize (noBox (l, d) && !b8) = nn at *
            rintro e w7 ⟨rfl, hx⟩
            have HS7 := Lib.hid (HS6.out.ext0 hx)
            have c7 := (HS6.out.ext0 hx).cell
            clear hx HS6 c6
            cases nn with
            | true =>
              have a1 := add_str vw [32] (by have := HVL.out; simp [maxLen]; omega)
              have a2 := add_str (vw ++ [32]) dt (by have := HVL.out; have := HT.out; simp [maxLen]; omega)
              go_wp2
              go_ret2
              rw [HV.out, HBV.out]
              exact ⟨by simp, HS7.out.drop⟩
            | false =>
              go_wp2
              go_ret2
              rw [HV.out, HBV.out]
              exact ⟨rfl, HS7.out.drop⟩
          · have hb1 : (dt == t) = false := by simpa using hdt
            have hb2 : (dt != t) = true := by simpa using hdt
            rw [hb1] at HBV
            clear hdt
            go_wp2
            go_ret2
            rw [HV.out, HBV.out]
            exact ⟨rfl, HS6.out.drop⟩
        · have hb1 : (de == 0) = false := by simpa using hde
          have hb2 : (de != 0) = true := by simpa using hde
          rw [hb1] at HBV
          clear hde
          go_wp2
          go_ret2
          rw [HV.out, HBV.out]
          exact ⟨rfl, HS6.out.drop⟩
      case inr.inr.inl =>
        have HBV := Lib.hid (HB3.out rfl)
        have HBAD : Hid ((pe == 0 && (t == [] && (decide (-1 ≤ z) && decide (z ≤ 999999999999)))) = false → cmWrite ⟨((3 : Nat) : Int), t, (l, d), z, b8⟩ = ([], 2)) := fun h => by
          rw [HV.out, HBV.out, h]; rfl
        by_cases hpe : pe = 0
        rotate_left 1
        · have hb2 : (pe != 0) = true := by simpa using hpe
          have HR := Lib.hid (HBAD.out (by rw [show (pe == 0) = false from by simpa using hpe]; rfl))
          clear hpe
          go_wp2
          go_ret2
          rw [HR.out]
          exact ⟨rfl, HS5.out.drop⟩
        subst hpe
        by_cases ht : t = []
        rotate_left 1
        · have hb2 : (0 : Int) < t.length := by have := List.length_pos_iff.2 ht; omega
          have HR := Lib.hid (HBAD.out (by rw [show (t == []) = false from by simpa using ht]; simp))
          go_wp2
          go_ret2
          rw [HR.out]
          exact ⟨rfl, HS5.out.drop⟩
        subst ht
        by_cases hz1 : z < -1
        · have HR := Lib.hid (HBAD.out (by rw [decide_eq_false (by omega : ¬ (-1 ≤ z))]; simp))
          go_wp2
          go_ret2
          rw [HR.out]
          exact ⟨rfl, HS5.out.drop⟩
        have hz1' : -1 ≤ z := by omega
        clear hz1
        by_cases hz2 : 999999999999 < z
        · have HR := Lib.hid (HBAD.out (by rw [decide_eq_false (by omega : ¬ (z ≤ 999999999999))]; simp))
          go_wp2
          go_ret2
          rw [HR.out]
          exact ⟨rfl, HS5.out.drop⟩
        have hz2' : z ≤ 999999999999 := by omega
        clear hz2
        have HGOOD : Hid (cmWrite ⟨((3 : Nat) : Int), [], (l, d), z, b8⟩ = (vw ++ (fromW ++ p ++ (if 0 ≤ z then sizeW ++ Lib.decDigits z.toNat else []) ++ (if b8 then bodyW else [])), 0)) := by
          unfold Hid
          rw [HV.out, HBV.out, decide_eq_true hz1', decide_eq_true hz2']
          rfl
        clear HBAD HBV HV
        obtain ⟨y1, hy1⟩ : ∃ y : Bs, y = [32, 70, 82, 79, 77, 58] ++ p := ⟨_, rfl⟩
        have HY1 := Lib.hid hy1
        have HL1 : Hid (y1.length ≤ 4000010) := by have := HPT.out; unfold Hid; rw [hy1]; simp; omega
        have a1 := add_str [32, 70, 82, 79, 77, 58] p (by have := HPT.out; simp [maxLen]; omega)
        rw [← hy1] at a1
        clear hy1
        obtain ⟨y2, hy2⟩ : ∃ y : Bs, y = vw ++ y1 := ⟨_, rfl⟩
        have HY2 := Lib.hid hy2
        have HL2 : Hid (y2.length ≤ 4000020) := by have := HVL.out; have := HL1.out; unfold Hid; rw [hy2]; simp; omega
        have a2 := add_str vw y1 (by have := HVL.out; have := HL1.out; simp [maxLen]; omega)
        rw [← hy2] at a2
        clear hy2
        by_cases hz0 : 0 ≤ z
        · obtain ⟨m, rfl⟩ : ∃ m : Nat, z = m := ⟨z.toNat, by omega⟩
          have hm : m ≤ 999999999999 := by omega
          have HNUM := Lib.hid (fun w' => r10Num_any m w' (by omega))
          have HDL : Hid ((Lib.decDigits m).length ≤ 30) := dec_len m (by omega)
          rw [if_pos hz0, Int.toNat_natCast] at HGOOD
          generalize Lib.decDigits m = dg at *
          obtain ⟨y3, hy3⟩ : ∃ y : Bs, y = [32, 83, 73, 90, 69, 61] ++ dg := ⟨_, rfl⟩
          have HY3 := Lib.hid hy3
          have HL3 : Hid (y3.length ≤ 40) := by have := HDL.out; unfold Hid; rw [hy3]; simp; omega
          have a3 := add_str [32, 83, 73, 90, 69, 61] dg (by have := HDL.out; simp [maxLen]; omega)
          rw [← hy3] at a3
          clear hy3 hm
          obtain ⟨y4, hy4⟩ : ∃ y : Bs, y = y2 ++ y3 := ⟨_, rfl⟩
          have HY4 := Lib.hid hy4
          have HL4 : Hid (y4.length ≤ 4000080) := by have := HL2.out; have := HL3.out; unfold Hid; rw [hy4]; simp; omega
          have a4 := add_str y2 y3 (by have := HL2.out; have := HL3.out; simp [maxLen]; omega)
          rw [← hy4] at a4
          clear hy4
          go_wp2_with fail
          refine (HNUM.out _).mono ?_
          rintro e w6 ⟨rfl, hx⟩
          have HS6 := Lib.hid (HS5.out.ext0 hx)
          have c6 := (HS5.out.ext0 hx).cell
          clear hx HS5 c5
          cases b8 with
          | true =>
            have a5 := add_str y4 [32, 66, 79, 68, 89, 61, 56, 66, 73, 84, 77, 73, 77, 69] (by have := HL4.out; simp [maxLen]; omega)
            go_wp2
            go_ret2
            rw [HGOOD.out, HY4.out, HY3.out, HY2.out, HY1.out]
            exact ⟨by simp [fromW, sizeW, bodyW], HS6.out.drop⟩
          | false =>
            go_wp2
            go_ret2
            rw [HGOOD.out, HY4.out, HY3.out, HY2.out, HY1.out]
            exact ⟨by simp [fromW, sizeW, bodyW], HS6.out.drop⟩
        · rw [if_neg hz0] at HGOOD
          have hz0' : z < 0 := by omega
          clear hz0
          cases b8 with
          | true =>
            have a5 := add_str y2 [32, 66, 79, 68, 89, 61, 56, 66, 73, 84, 77, 73, 77, 69] (by have := HL2.out; simp [maxLen]; omega)
            go_wp2
            go_ret2
            rw [HGOOD.out, HY2.out, HY1.out]
            exact ⟨by simp [fromW, sizeW, bodyW], HS5.out.drop⟩
          | false =>
            go_wp2
            go_ret2
            rw [HGOOD.out, HY2.out, HY1.out]
            exact ⟨by simp [fromW, sizeW, bodyW], HS5.out.drop⟩
      case inr.inr.inr.inl =>
        have HBV := Lib.hid (HB4.out rfl)
        have HBAD : Hid ((pe == 0 && (!noBox (l, d) && (t == [] && !b8))) = false → cmWrite ⟨((4 : Nat) : Int), t, (l, d), z, b8⟩ = ([], 2)) := fun h => by
          rw [HV.out, HBV.out, h]; rfl
        by_cases hpe : pe = 0
        rotate_left 1
        · have hb2 : (pe != 0) = true := by simpa using hpe
          have HR := Lib.hid (HBAD.out (by rw [show (pe == 0) = false from by simpa using hpe]; rfl))
          clear hpe
          go_wp2
          go_ret2
          rw [HR.out]
          exact ⟨rfl, HS5.out.drop⟩
        have HNB2 := Lib.hid (HNB.out hpe)
        subst hpe
        rw [← HNB2.out] at HBAD HBV
        by_cases hno : p = [60, 62]
        · subst hno
          have HR := Lib.hid (HBAD.out rfl)
          go_wp2
          go_ret2
          rw [HR.out]
          exact ⟨rfl, HS5.out.drop⟩
        have hb3 : (p == [60, 62]) = false := by simpa using hno
        clear hno
        by_cases ht : t = []
        rotate_left 1
        · have hb2 : (0 : Int) < t.length := by have := List.length_pos_iff.2 ht; omega
          have HR := Lib.hid (HBAD.out (by rw [show (t == []) = false from by simpa using ht]; simp))
          go_wp2
          go_ret2
          rw [HR.out]
          exact ⟨rfl, HS5.out.drop⟩
        subst ht
        cases b8 with
        | true =>
          have HR := Lib.hid (HBAD.out (by simp))
          go_wp2
          go_ret2
          rw [HR.out]
          exact ⟨rfl, HS5.out.drop⟩
        | false =>
          have HGOOD : Hid (cmWrite ⟨((4 : Nat) : Int), [], (l, d), z, false⟩ = (vw ++ (toW ++ p), 0)) := by
            unfold Hid
            rw [HV.out, HBV.out, hb3]
            rfl
          have a1 := add_str vw [32, 84, 79, 58] (by have := HVL.out; simp [maxLen]; omega)
          obtain ⟨y1, hy1⟩ : ∃ y : Bs, y = vw ++ [32, 84, 79, 58] := ⟨_, rfl⟩
          have HY1 := Lib.hid hy1
          have a2 := add_str y1 p (by have := HVL.out; have := HPT.out; rw [hy1]; simp [maxLen]; omega)
          rw [← hy1] at a1
          clear hy1
          go_wp2
          go_ret2
          rw [HGOOD.out, HY1.out]
          exact ⟨by simp [toW], HS5.out.drop⟩
      case inr.inr.inr.inr.inl =>
        have HBV : Hid (besideC ⟨_, t, (l, d), z, b8⟩ = _) := besideC_5 (v := ((5 : Nat) : Int)) t l d z b8 (by decide)
        by_cases ht : t = []
        rotate_left 1
        · have hb2 : (0 : Int) < t.length := by have := List.length_pos_iff.2 ht; omega
          have HR : Hid (cmWrite ⟨((5 : Nat) : Int), t, (l, d), z, b8⟩ = ([], 2)) := by
            unfold Hid
            rw [HV.out, HBV.out, show (t == []) = false from by simpa using ht]; rfl
          go_wp2
          go_ret2
          rw [HR.out]
          exact ⟨rfl, HS5.out.drop⟩
        subst ht
        have HR : Hid (cmWrite ⟨((5 : Nat) : Int), [], (l, d), z, b8⟩ = if (noBox (l, d) && !b8) = true then (vw, 0) else ([], 2)) := by
          unfold Hid
          rw [HV.out, HBV.out]
          simp
        go_wp2_with fail
        refine (HNO.out _).mono ?_
        generalize (noBox (l, d) && !b8) = nn at *
        rintro e w7 ⟨rfl, hx⟩
        have HS7 := Lib.hid (HS5.out.ext0 hx)
        clear hx HS5 c5
        cases nn with
        | true =>
          go_wp2
          go_ret2
          rw [HR.out]
          exact ⟨rfl, HS7.out.drop⟩
        | false =>
          go_wp2
          go_ret2
          rw [HR.out]
          exact ⟨rfl, HS7.out.drop⟩
      case inr.inr.inr.inr.inr.inl =>
        have HBV : Hid (besideC ⟨_, t, (l, d), z, b8⟩ = _) := besideC_5 (v := ((6 : Nat) : Int)) t l d z b8 (by decide)
        by_cases ht : t = []
        rotate_left 1
        · have hb2 : (0 : Int) < t.length := by have := List.length_pos_iff.2 ht; omega
          have HR : Hid (cmWrite ⟨((6 : Nat) : Int), t, (l, d), z, b8⟩ = ([], 2)) := by
            unfold Hid
            rw [HV.out, HBV.out, show (t == []) = false from by simpa using ht]; rfl
          go_wp2
          go_ret2
          rw [HR.out]
          exact ⟨rfl, HS5.out.drop⟩
        subst ht
        have HR : Hid (cmWrite ⟨((6 : Nat) : Int), [], (l, d), z, b8⟩ = if (noBox (l, d) && !b8) = true then (vw, 0) else ([], 2)) := by
          unfold Hid
          rw [HV.out, HBV.out]
          simp
        go_wp2_with fail
        refine (HNO.out _).mono ?_
        generalize (noBox (l, d) && !b8) = nn at *
        rintro e w7 ⟨rfl, hx⟩
        have HS7 := Lib.hid (HS5.out.ext0 hx)
        clear hx HS5 c5
        cases nn with
        | true =>
          go_wp2
          go_ret2
          rw [HR.out]
          exact ⟨rfl, HS7.out.drop⟩
        | false =>
          go_wp2
          go_ret2
          rw [HR.out]
          exact ⟨rfl, HS7.out.drop⟩
      case inr.inr.inr.inr.inr.inr.inl =>
        have HBV : Hid (besideC ⟨_, t, (l, d), z, b8⟩ = _) := besideC_7 (v := ((7 : Nat) : Int)) t l d z b8 rfl
        rw [HSAID.out] at HBV
        cases sd with
        | false =>
          have HR : Hid (cmWrite ⟨((7 : Nat) : Int), t, (l, d), z, b8⟩ = ([], 2)) := by
            unfold Hid
            rw [HV.out, HBV.out]
            first | rfl | (split <;> rfl) | simp
          go_wp2
          go_ret2
          rw [HR.out]
          exact ⟨rfl, HS5.out.drop⟩
        | true =>
          by_cases ht : t = []
          · have HR : Hid (cmWrite ⟨((7 : Nat) : Int), t, (l, d), z, b8⟩ = (vw, 0)) := by
              unfold Hid
              rw [HV.out, HBV.out, ht]
              simp
            have hb1 : ((t.length : Int) == 0) = true := by rw [ht]; rfl
            have hb2 : (t.length : Int) ≤ 0 := by rw [ht]; simp
            go_wp2
            go_ret2
            rw [HR.out]
            exact ⟨rfl, HS5.out.drop⟩
          · have HR : Hid (cmWrite ⟨((7 : Nat) : Int), t, (l, d), z, b8⟩ = (vw ++ 32 :: t, 0)) := by
              unfold Hid
              rw [HV.out, HBV.out]
              simp [ht]
            have hpos := List.length_pos_iff.2 ht
            have hb1 : ((t.length : Int) == 0) = false := by rw [beq_eq_false_iff_ne]; omega
            have hb2 : (0 : Int) < t.length := by omega
            have a1 := add_str [32] t (by have := HT.out; simp [maxLen]; omega)
            have a2 := add_str vw (32 :: t) (by have := HVL.out; have := HT.out; simp [maxLen]; omega)
            clear hpos
            go_wp2
            go_ret2
            rw [HR.out]
            exact ⟨rfl, HS5.out.drop⟩
      case inr.inr.inr.inr.inr.inr.inr.inl =>
        have HBV : Hid (besideC ⟨_, t, (l, d), z, b8⟩ = _) := besideC_5 (v := ((8 : Nat) : Int)) t l d z b8 (by decide)
        by_cases ht : t = []
        rotate_left 1
        · have hb2 : (0 : Int) < t.length := by have := List.length_pos_iff.2 ht; omega
          have HR : Hid (cmWrite ⟨((8 : Nat) : Int), t, (l, d), z, b8⟩ = ([], 2)) := by
            unfold Hid
            rw [HV.out, HBV.out, show (t == []) = false from by simpa using ht]; rfl
          go_wp2
          go_ret2
          rw [HR.out]
          exact ⟨rfl, HS5.out.drop⟩
        subst ht
        have HR : Hid (cmWrite ⟨((8 : Nat) : Int), [], (l, d), z, b8⟩ = if (noBox (l, d) && !b8) = true then (vw, 0) else ([], 2)) := by
          unfold Hid
          rw [HV.out, HBV.out]
          simp
        go_wp2_with fail
        refine (HNO.out _).mono ?_
        generalize (noBox (l, d) && !b8) = nn at *
        rintro e w7 ⟨rfl, hx⟩
        have HS7 := Lib.hid (HS5.out.ext0 hx)
        clear hx HS5 c5
        cases nn with
        | true =>
          go_wp2
          go_ret2
          rw [HR.out]
          exact ⟨rfl, HS7.out.drop⟩
        | false =>
          go_wp2
          go_ret2
          rw [HR.out]
          exact ⟨rfl, HS7.out.drop⟩
      case inr.inr.inr.inr.inr.inr.inr.inr =>
        have HBV : Hid (besideC ⟨_, t, (l, d), z, b8⟩ = _) := besideC_9 (v := ((9 : Nat) : Int)) t l d z b8 rfl
        rw [HSAID.out] at HBV
        cases sd with
        | false =>
          have HR : Hid (cmWrite ⟨((9 : Nat) : Int), t, (l, d), z, b8⟩ = ([], 2)) := by
            unfold Hid
            rw [HV.out, HBV.out]
            first | rfl | (split <;> rfl) | simp
          go_wp2
          go_ret2
          rw [HR.out]
          exact ⟨rfl, HS5.out.drop⟩
        | true =>
          by_cases ht : t = []
          · have HR : Hid (cmWrite ⟨((9 : Nat) : Int), t, (l, d), z, b8⟩ = ([], 2)) := by
              unfold Hid
              rw [HV.out, HBV.out, ht]
              simp
            have hb1 : ((t.length : Int) == 0) = true := by rw [ht]; rfl
            have hb2 : (t.length : Int) ≤ 0 := by rw [ht]; simp
            go_wp2
            go_ret2
            rw [HR.out]
            exact ⟨rfl, HS5.out.drop⟩
          · have HR : Hid (cmWrite ⟨((9 : Nat) : Int), t, (l, d), z, b8⟩ = (vw ++ 32 :: t, 0)) := by
              unfold Hid
              rw [HV.out, HBV.out]
              simp [ht]
            have hpos := List.length_pos_iff.2 ht
            have hb1 : ((t.length : Int) == 0) = false := by rw [beq_eq_false_iff_ne]; omega
            have hb2 : (0 : Int) < t.length := by omega
            have a1 := add_str [32] t (by have := HT.out; simp [maxLen]; omega)
            have a2 := add_str vw (32 :: t) (by have := HVL.out; have := HT.out; simp [maxLen]; omega)
            clear hpos
            go_wp2
            go_ret2
            rw [HR.out]
            exact ⟨rfl, HS5.out.drop⟩
end
end Go.Proofs.YtldlbiodllgflaaGreatDoor
