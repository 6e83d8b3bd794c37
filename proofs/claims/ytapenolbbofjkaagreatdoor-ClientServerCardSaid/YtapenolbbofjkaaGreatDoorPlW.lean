/- plan: rules that may be, their table, a domain's rule. Conditions: the lengths fit; what Go's variables hold. -/
import Derived.Test.YtapenolbbofjkaaGreatDoorPlP
import Derived.Test.YtapenolbbofjkaaGreatDoorAdW
import Derived.Test.YtapenolbbofjkaaGreatDoorRangeS
import Derived.Test.YtapenolbbofjkaaGreatDoorArgs0
import Derived.StringKeys
set_option linter.unusedSimpArgs false
set_option linter.unusedVariables false
set_option linter.unnecessarySimpa false
namespace Go.Proofs.YtapenolbbofjkaaGreatDoor
open Go.RowKit Go.Maps
open Go.WideMaps (keyOf_string_mk)

def Rl.vals (r : Rl) : List Value := [.string ⟨r.1.toArray⟩, .int .i64 r.2.1, .int .i64 r.2.2]
def rlAgg (r : Rl) : Value := .agg #[.string ⟨r.1.toArray⟩, .int .i64 r.2.1, .int .i64 r.2.2]
/-- What fits the machine. -/
def Rl.Fit (r : Rl) : Prop := r.1.length ≤ maxLen ∧ -9223372036854775808 ≤ r.2.1 ∧ r.2.1 ≤ 9223372036854775807 ∧ -9223372036854775808 ≤ r.2.2 ∧ r.2.2 ≤ 9223372036854775807
/-- A slice value that holds rules, wherever it lies. -/
def RlsAt (w : World) (v : Value) (l : List Rl) : Prop := ∃ a cap, v = .slice a l.length cap ∧ (l = [] ∨ ∃ b off, a = some ⟨b, off, none⟩ ∧ ∀ i r j u, l[i]? = some r → (Rl.vals r)[j]? = some u → w.cell? ⟨b, off + i * 3 + j, none⟩ = some u)
theorem RlsAt.ext {w w2 : World} {v : Value} {l : List Rl} (h : RlsAt w v l) (hx : Ext [] w w2) : RlsAt w2 v l := by
  obtain ⟨a, cap, h1, h2⟩ := h
  refine ⟨a, cap, h1, ?_⟩
  rcases h2 with h2 | ⟨b, off, h2, h3⟩
  · exact .inl h2
  · exact .inr ⟨b, off, h2, fun i r j u hi hj => hx.cell (h3 i r j u hi hj) (by simp)⟩
theorem RlsAt.form {w : World} {v : Value} {l : List Rl} (h : RlsAt w v l) : ∃ a cap, v = .slice a l.length cap := by
  obtain ⟨a, cap, h1, _⟩ := h
  exact ⟨a, cap, h1⟩
theorem RlsAt.at {w : World} {a : Option Addr} {n cap : Nat} {l : List Rl} (h : RlsAt w (.slice a n cap) l) {i : Nat} (hi : i < l.length) : ∃ b off, a = some ⟨b, off, none⟩ ∧ w.cell? ⟨b, off + i * 3, none⟩ = some (.string ⟨l[i].1.toArray⟩) ∧ w.cell? ⟨b, off + i * 3 + 1, none⟩ = some (.int .i64 l[i].2.1) ∧ w.cell? ⟨b, off + i * 3 + 2, none⟩ = some (.int .i64 l[i].2.2) := by
  obtain ⟨a2, cap2, h1, h2⟩ := h
  cases h1
  rcases h2 with rfl | ⟨b, off, rfl, h3⟩
  · cases hi
  · have hr : l[i]? = some l[i] := List.getElem?_eq_getElem hi
    exact ⟨b, off, rfl, h3 i _ 0 _ hr rfl, h3 i _ 1 _ hr rfl, h3 i _ 2 _ hr rfl⟩
theorem rlZero (w : World) : (zeroValue 65).run Tryz.prog w = .ok (rlAgg ([], 0, 0)) w := by kernel_rfl
section
variable {w0 w : World} {L : List Res} {v : Value}
set_option maxRecDepth 100000 in
/-- A domain of any length. -/
theorem domainM (s : Bs) (S : Sp w0 [] w L) (E : Env w0) (hs : s.length ≤ maxLen) : Calls Tryz.prog 43 #[.string ⟨s.toArray⟩] w fun e w2 => e = .returned (.tuple #[.string ⟨(domV s).1.toArray⟩, .int .i64 (domV s).2]) ∧ Sp w0 [] w2 L := by
  by_cases hl : s.length ≤ 255
  · exact domainS s S E (by omega)
  · have HS := Lib.hid S
    have hl' : (255 : Int) < s.length := by omega
    have hs' : (s.length : Int) ≤ 9223372036854775807 := by unfold maxLen at hs; omega
    have HV : Hid (domV s = ([], 2)) := by unfold Hid domV domOk; rw [if_neg (by simp [hl])]
    clear S E hs hl
    go_enter Tryz.func43, Tryz.ntmps43
    go_wp2
    go_ret2
    rw [HV.out]
    exact ⟨rfl, HS.out⟩
set_option maxRecDepth 100000 in
set_option maxHeartbeats 2000000 in
theorem rlMayS (r : Rl) (hf : r.Fit) (S : Sp w0 [] w L) (E : Env w0) : Calls Tryz.prog 73 #[rlAgg r] w fun e w2 => e = .returned (.bool (rlMay r)) ∧ Sp w0 [] w2 L := by
  obtain ⟨d, k, h⟩ := r
  have HS0 := Lib.hid (S.box #[.string ⟨d.toArray⟩, .int .i64 k, .int .i64 h] 65)
  have HD := Lib.hid (fun (w' : World) (L' : List Res) (S' : Sp w0 [] w' L') => domainM d S' E hf.1)
  have HV : Hid (rlMay (d, k, h) = ((d == [42] || ((domV d).2 == 0 && (domV d).1 == d)) && (decide (1 ≤ k) && (decide (k ≤ 3) && (decide (0 ≤ h) && decide (h ≤ 7)))))) := rfl
  unfold rlAgg
  dsimp only at *
  clear S E hf
  go_enter Tryz.func73, Tryz.ntmps73
  go_upto_region 1 with (fail)
  generalize w.alloc _ = w1 at *
  generalize w.heap.size = q at *
  have c0 := HS0.out.cell
  go_wp2_with fail
  refine (HD.out _ _ HS0.out).mono ?_
  rintro e w2 ⟨rfl, S⟩
  have c2 := S.cell
  have HS2 := Lib.hid S.drop
  generalize domV d = dv at *
  obtain ⟨x, f⟩ := dv
  dsimp only at *
  clear S HS0 c0 HD
  have HB : Hid (∀ b : Bool, (d == [42] || (f == 0 && x == d)) = b → rlMay (d, k, h) = (b && (decide (1 ≤ k) && (decide (k ≤ 3) && (decide (0 ≤ h) && decide (h ≤ 7)))))) := fun b hb => by rw [HV.out, hb]
  by_cases hd : (d == [42] || (f == 0 && x == d)) = true
  · have HW := Lib.hid (HB.out _ hd)
    cases hs : (d == [42]) with
    | true =>
      clear HB HV hd
      go_wp2
      all_goals
        go_ret
        refine ⟨ret_bool ?_, HS2.out⟩
        rw [HW.out, Bool.eq_iff_iff]
        simp
        first | done | omega
    | false =>
      rw [hs, Bool.false_or, Bool.and_eq_true] at hd
      obtain ⟨hd1, hd2⟩ := hd
      have hd3 : f = 0 := by simpa using hd1
      have hd4 : x = d := by simpa using hd2
      subst hd3 hd4
      clear HB HV hd1 hd2
      go_wp2
      all_goals
        go_ret
        refine ⟨ret_bool ?_, HS2.out⟩
        rw [HW.out, Bool.eq_iff_iff]
        simp
        first | done | omega
  · have hd' : (d == [42] || (f == 0 && x == d)) = false := by simpa using hd
    have HW : Hid (rlMay (d, k, h) = false) := by unfold Hid; rw [HB.out _ hd']; rfl
    rw [Bool.or_eq_false_iff, Bool.and_eq_false_iff] at hd'
    obtain ⟨hd1, hd2⟩ := hd'
    clear HB HV hd
    rcases hd2 with hd2 | hd2
    · go_wp2
      go_ret
      exact ⟨by rw [HW.out]; rfl, HS2.out⟩
    · cases hf0 : (f == 0) with
      | false =>
        go_wp2
        go_ret
        exact ⟨by rw [HW.out]; rfl, HS2.out⟩
      | true =>
        have hf1 : f = 0 := by simpa using hf0
        subst hf1
        go_wp2
        go_ret
        exact ⟨by rw [HW.out]; rfl, HS2.out⟩
theorem keyStrP (x : Bs) (hx : x.length ≤ maxLen) : keyOf Tryz.prog 9 (.string ⟨x.toArray⟩) = some (.string x) := keyOf_string_mk Tryz.underlying9 (s := ⟨x.toArray⟩) hx
theorem keyedStrP : Keyed Tryz.prog 9 := string_keyed Tryz.underlying9
/-- What a call lays anew, beside what is there. -/
theorem Sp.join {w2 : World} {F0 : List Nat} {r : Res} (S : Sp w0 F0 w L) (S2 : Sp w [] w2 [r]) : Sp w0 F0 w2 (r :: L) := by
  obtain ⟨G, h1, h2⟩ := S2.out
  exact S.gain h2.ext h1 fun x hx => (h2.new x hx).resolve_left (by simp)
theorem take_snoc {α : Type} (l : List α) (k : Nat) (h : k < l.length) : l.take (k + 1) = l.take k ++ [l[k]] := List.take_succ_eq_append_getElem h
set_option maxRecDepth 100000 in
set_option maxHeartbeats 4000000 in
theorem tab_any (l : List Rl) (hn : l.length ≤ 100000) (hf : ∀ r ∈ l, r.Fit) (T : RlsAt w v l) : Calls Tryz.prog 62 #[v] w fun e w2 => ∃ b, e = .returned (.map (some b)) ∧ Sp w [] w2 [mapR 9 rlAgg b (rlTab l)] := by
  have hmm := @run_makeMap Tryz.prog
  have HS0 := Lib.hid ((Sp.nil w []).mapMade 9 rlAgg)
  have HT := Lib.hid T
  have HF := Lib.hid hf
  have HN := Lib.hid hn
  obtain ⟨va, vc, rfl⟩ := T.form
  have hnl : (l.length : Int) ≤ 100000 := by omega
  clear T hf hn
  go_enter Tryz.func62, Tryz.ntmps62
  go_upto_region 2 with (fail)
  generalize w.alloc _ = w1 at *
  generalize w.heap.size = m at *
  go_wp2_with fail
  go_loopw [9] (fun at0 wr => ∃ k : Nat, at0 = .int .i64 k ∧ k ≤ l.length ∧ Sp w [] wr [mapR 9 rlAgg m (rlTab (l.take k))]) (fun at0 _ => l.length - (intOf at0).toNat)
  case atStart => exact ⟨0, rfl, Nat.zero_le _, HS0.out⟩
  case round =>
    obtain ⟨k, rfl, hk, S1⟩ := hrel
    have HS1 := Lib.hid S1
    clear S1 HS0 hmm
    have hk' : (k : Int) ≤ l.length := by omega
    by_cases hlt : k < l.length
    · have hlt' : (k : Int) < l.length := by omega
      obtain ⟨xb, xo, hva, x0, x1, x2⟩ := (HT.out.ext HS1.out.ext).at hlt
      subst hva
      have HX := Lib.hid (HF.out _ (List.getElem_mem hlt))
      have HTK : Hid (rlTab (l.take (k + 1)) = (rlTab (l.take k)).put l[k].1 l[k]) := by unfold Hid; rw [take_snoc l k hlt, rlTab_snoc]
      have HTL : Hid ((rlTab (l.take k)).length ≤ 100000) := by
        have := tab_len (l.take k)
        rw [List.length_take] at this
        have := HN.out
        unfold Hid
        omega
      generalize l[k] = x at *
      obtain ⟨d, kd, hs⟩ := x
      have HXD : Hid (d.length ≤ maxLen) := HX.out.1
      dsimp only at *
      obtain ⟨w5, hrun, S5, _⟩ := (HS1.out.new (.cells #[.string ⟨d.toArray⟩, .int .i64 kd, .int .i64 hs] 65)).mapPut (t := 104) keyedStrP Tryz.underlying104 (by have := HTL.out; unfold maxLen; omega) (keyStrP d HXD.out) ((d, kd, hs) : Rl)
      unfold rlAgg at hrun
      dsimp only at hrun
      rw [← HTK.out] at S5
      have HS5 := Lib.hid S5
      clear S5 HS1
      go_wp2_with fail
      go_roundw
      case rel => exact ⟨k + 1, by go_num, by omega, HS5.out⟩
      case measure => simp [intOf]; omega
    · obtain rfl : k = l.length := by omega
      have HS2 := HS1.out
      rw [List.take_length] at HS2
      have HS3 := Lib.hid HS2
      clear HS1 HS2
      go_wp2
      go_ret
      exact ⟨_, rfl, HS3.out⟩
set_option maxRecDepth 100000 in
set_option maxHeartbeats 4000000 in
theorem rlsMay_any (l : List Rl) (hn : l.length ≤ 100000) (hf : ∀ r ∈ l, r.Fit) (T : RlsAt w v l) (E : Env w) : Calls Tryz.prog 44 #[v] w fun e w2 => e = .returned (.bool (rlsMay l)) ∧ Ext [] w w2 := by
  have HT := Lib.hid (tab_any l hn hf T)
  have HE := Lib.hid E
  have HF := Lib.hid hf
  have HV : Hid (rlsMay l = (decide (l.length ≤ 40) && (l.all rlMay && decide ((l.map (·.1)).Nodup)))) := rfl
  have HN := Lib.hid hn
  obtain ⟨va, vc, rfl⟩ := T.form
  have hnl : (l.length : Int) ≤ 100000 := by omega
  clear T hf hn E
  go_enter Tryz.func44, Tryz.ntmps44
  by_cases h40 : 40 < l.length
  · have h40' : (40 : Int) < l.length := by omega
    have HW : Hid (rlsMay l = false) := by unfold Hid; rw [HV.out, decide_eq_false (by omega)]; rfl
    clear h40
    go_wp2
    go_ret
    exact ⟨by rw [HW.out]; rfl, Ext.refl _ _⟩
  have h40' : (l.length : Int) ≤ 40 := by omega
  have HV2 : Hid (rlsMay l = (l.all rlMay && decide ((l.map (·.1)).Nodup))) := by unfold Hid; rw [HV.out, decide_eq_true (by omega)]; rfl
  have HMEM := Lib.hid (fun (p : Bs × Rl) (h : p ∈ rlTab l) => tab_in h)
  have HALL := Lib.hid (@tab_all l)
  have HNOD := Lib.hid (tab_nodup l)
  have HLE := Lib.hid (tab_len l)
  clear h40 HV
  go_wp2_with fail
  refine HT.out.mono ?_
  rintro e w1 ⟨m, rfl, S⟩
  generalize rlTab l = M at *
  obtain ⟨w2, cnt, hrun, S2⟩ := S.rangeMade (t := 104) keyedStrP Tryz.underlying104
  have HS2 := Lib.hid S2
  clear S S2 HT
  generalize w1.heap.size = ri at *
  go_wp2_with fail
  go_loopw [] (fun wr => ∃ (N : Mp Rl) (cnt : Nat), (∀ p ∈ M, p ∈ N ∨ rlMay p.2 = true) ∧ Sp w [] wr (rangeR 9 rlAgg m ri M N cnt :: [])) (fun wr => wr.rangeLeft m ri)
  case atStart => exact ⟨M, cnt, fun p hp => .inl hp, HS2.out⟩
  case round =>
    clear hrun HS2
    obtain ⟨N, cnt, hdone, S10⟩ := hrel
    have HDN := Lib.hid hdone
    have HLF := Lib.hid S10.range.left_eq
    have HS10 := Lib.hid S10
    rcases S10.rangeNext Tryz.underlying9 with ⟨rfl, hnx⟩ | ⟨x, r, w11, N1, cnt1, hperm, hmem, hxl, hnx, S11, hlt2, hnot, hent⟩
    · have hlen := (HS10.out.rangeEnd).map.len Tryz.underlying104
      have HAL : Hid (∀ p ∈ M, rlMay p.2 = true) := fun p hp => by
        rcases HDN.out p hp with h | h
        · cases h
        · exact h
      have hml : (M.length : Int) ≤ 40 := by have := HLE.out; omega
      clear S10 hdone
      by_cases hnd : M.length = l.length
      · have hnd' : ((M.length : Int) == l.length) = true := by simp [hnd]
        have HW : Hid (rlsMay l = true) := by
          unfold Hid
          rw [HV2.out, decide_eq_true (HNOD.out.1 hnd), HALL.out (HNOD.out.1 hnd) HAL.out]
          rfl
        clear hnd
        go_wp2
        go_ret
        exact ⟨by rw [HW.out]; rfl, HS10.out.ext⟩
      · have hnd' : ((M.length : Int) == l.length) = false := by simp; omega
        have HW : Hid (rlsMay l = false) := by
          unfold Hid
          rw [HV2.out, decide_eq_false (fun h => hnd (HNOD.out.2 h))]
          simp
        clear hnd
        go_wp2
        go_ret
        exact ⟨by rw [HW.out]; rfl, HS10.out.ext⟩
    · have HRL : Hid (r ∈ l) := HMEM.out _ hmem
      have HPM := Lib.hid hperm
      have HMC : Hid (∀ b, rlMay r = b → b = true → ∀ p ∈ M, p ∈ N1 ∨ rlMay p.2 = true) := fun b hb hb2 p hp => by
        rcases HDN.out p hp with h | h
        · have h2 := HPM.out.subset h
          rcases List.mem_cons.1 h2 with rfl | h2
          · exact .inr (by rw [← hb2, ← hb])
          · exact .inl h2
        · exact .inr h
      have HLT := Lib.hid hlt2
      have HS11 := Lib.hid (S11.new (.cells #[.string ⟨r.1.toArray⟩, .int .i64 r.2.1, .int .i64 r.2.2] 65))
      clear S10 hdone S11 hperm hmem hxl hlt2 hnot
      have HRM := Lib.hid (rlMayS r (HF.out r HRL.out) HS11.out (HE.out))
      obtain ⟨d, kd, hs⟩ := r
      unfold rlAgg at *
      dsimp only at *
      cases hb : rlMay (d, kd, hs) with
      | false =>
        have HW : Hid (rlsMay l = false) := by
          unfold Hid
          rw [HV2.out, show l.all rlMay = false from List.all_eq_false.2 ⟨_, HRL.out, by rw [hb]; simp⟩]
          rfl
        rw [hb] at HRM
        clear hb HMC
        go_wp2_with fail
        refine HRM.out.mono ?_
        rintro e w12 ⟨rfl, S⟩
        have HS12 := Lib.hid S
        clear S
        go_wp2
        go_ret
        exact ⟨by rw [HW.out]; rfl, HS12.out.ext⟩
      | true =>
        have HD2 := Lib.hid (HMC.out _ rfl hb)
        rw [hb] at HRM
        clear hb HMC
        go_wp2_with fail
        refine HRM.out.mono ?_
        rintro e w12 ⟨rfl, S⟩
        have HS12 := Lib.hid S
        clear S
        go_wp2_with fail
        go_roundw
        case rel => exact ⟨N1, cnt1, HD2.out, HS12.out⟩
        case measure => rw [HLF.out, HS12.out.range.left_eq]; exact HLT.out
theorem domV_len9 (s : Bs) : (domV s).1.length ≤ s.length := by
  unfold domV
  split
  · simp [smallB]
  · simp
set_option maxRecDepth 100000 in
set_option maxHeartbeats 8000000 in
theorem route_any (l : List Rl) (d : Bs) (hd : d.length ≤ 1000000) (hn : l.length ≤ 100000) (hf : ∀ r ∈ l, r.Fit) (T : RlsAt w v l) (E : Env w) : Calls Tryz.prog 29 #[v, .string ⟨d.toArray⟩] w fun e w2 => e = .returned (.tuple #[rlAgg ((route l d).getD ([], 0, 0)), .bool (route l d).isSome]) ∧ Ext [] w w2 := by
  have HS0 := Lib.hid ((Sp.nil w []).box #[.string ⟨#[]⟩, .int .i64 0, .int .i64 0] 65)
  have HV : Hid (route l d = if (domV d).2 = 0 ∧ rlsMay l = true then rlUp l ((domV d).1.length + 1) (domV d).1 else none) := rfl
  have HD := Lib.hid (fun (w' : World) (L' : List Res) (S' : Sp w [] w' L') => domainS d S' E hd)
  have HM := Lib.hid (fun (w' : World) (hx : Ext [] w w') => rlsMay_any l hn hf (T.ext hx) (E.ext hx))
  have HTB := Lib.hid (fun (w' : World) (hx : Ext [] w w') => tab_any l hn hf (T.ext hx))
  have HE := Lib.hid E
  have HLD := Lib.hid (Nat.le_trans (domV_len9 d) hd)
  have HND : Hid (rlsMay l = true → (l.map (·.1)).Nodup) := fun h => by
    unfold rlsMay at h
    simp only [Bool.and_eq_true, decide_eq_true_eq] at h
    exact h.2.2
  have HFD := Lib.hid (@tab_find l)
  clear T hf hn E hd
  go_enter Tryz.func29, Tryz.ntmps29
  go_upto_region 1 with (fail)
  generalize w.alloc _ = w1 at *
  generalize w.heap.size = q4 at *
  go_wp2_with fail
  refine (HD.out _ _ HS0.out).mono ?_
  rintro e w2 ⟨rfl, S⟩
  generalize domV d = dv at *
  obtain ⟨x, f⟩ := dv
  dsimp only at *
  have HS2 := Lib.hid S
  have c2 := S.cell
  have f2 := S.free
  have HSZ := Lib.hid (((S.set (o := 0) (.string ⟨#[]⟩)).set (o := 1) (.int .i64 0)).set (o := 2) (.int .i64 0))
  clear S HS0 HD
  by_cases hf : f = 0
  · subst hf
    have HMw := Lib.hid (HM.out w2 HS2.out.ext)
    clear HM
    cases hm : rlsMay l with
    | false =>
      have HW : Hid (route l d = none) := by unfold Hid; rw [HV.out, if_neg (by rintro ⟨_, h⟩; rw [hm] at h; cases h)]
      rw [hm] at HMw
      clear hm HV
      go_wp2_with fail
      refine HMw.out.mono ?_
      rintro e w3 ⟨rfl, hx⟩
      have S3 := HS2.out.ext0 hx
      have c3 := S3.cell
      have f3 := S3.free
      have HSZ3 := Lib.hid (((S3.set (o := 0) (.string ⟨#[]⟩)).set (o := 1) (.int .i64 0)).set (o := 2) (.int .i64 0))
      clear S3 hx HS2 c2 f2 HSZ
      go_wp2
      rw [HW.out]
      exact bodyPost_ret (v := .tuple #[.agg #[.string ⟨#[]⟩, .int .i64 0, .int .i64 0], .bool false]) (by simp [results, Tryz.results29, go_sem, c3]) rfl ⟨rfl, HSZ3.out.ext⟩
    | true =>
      have HR : Hid (route l d = rlUp l (x.length + 1) x) := by unfold Hid; rw [HV.out, if_pos ⟨by trivial, hm⟩]
      have HGT := Lib.hid (fun s => HFD.out (HND.out hm) s)
      rw [hm] at HMw
      clear hm HV HND HFD
      go_wp2_with fail
      refine HMw.out.mono ?_
      rintro e w3 ⟨rfl, hx⟩
      have HS3 := Lib.hid (HS2.out.ext0 hx)
      clear hx HS2 c2 f2 HSZ HMw
      go_wp2_with fail
      refine (HTB.out w3 HS3.out.ext).mono ?_
      rintro e w4 ⟨m, rfl, S⟩
      have HS4 := Lib.hid (HS3.out.join S)
      generalize rlTab l = M at *
      clear S HS3 HTB
      go_wp2_with fail
      go_loopw [6, 9] (fun z more wr => ∃ (s : Bs) (b : Bool), z = .string ⟨s.toArray⟩ ∧ more = .bool b ∧ s.length ≤ 1000000 ∧ (if b = true then rlUp l (s.length + 1) s = route l d else rlFind l [42] = route l d) ∧ Sp w [] wr (mapR 9 rlAgg m M :: boxR q4 #[.string ⟨#[]⟩, .int .i64 0, .int .i64 0] 65 :: [])) (fun z more _ => match z, more with | .string s, .bool true => s.size + 1 | _, _ => 0)
      case atStart => exact ⟨x, true, rfl, rfl, HLD.out, HR.out.symm, HS4.out⟩
      case round =>
        obtain ⟨s, b, rfl, rfl, hsl, hrel, S1⟩ := hrel
        have HSL := Lib.hid hsl
        have HS5 := Lib.hid S1
        clear hsl S1 HS4 HR
        cases b with
        | true =>
          rw [if_pos rfl] at hrel
          have hlk := HS5.out.map.lookOk (t := 104) keyedStrP Tryz.underlying104 (rlZero _) (keyStrP s (by have := HSL.out; unfold maxLen; omega))
          rw [Mp.has_eq, HGT.out] at hlk
          cases hg : rlFind l s with
          | some r =>
            have HW : Hid (route l d = some r) := by
              unfold Hid
              rw [← hrel]
              unfold rlUp
              rw [hg]
            rw [hg] at hlk
            obtain ⟨ra, rb, rc⟩ := r
            have hlk' : (Instr.lookup 104 (.map (some m)) (.string ⟨s.toArray⟩) true).run Tryz.prog wr = .ok (.tuple #[.agg #[.string ⟨ra.toArray⟩, .int .i64 rb, .int .i64 rc], .bool true]) wr := hlk
            have HS6 := Lib.hid (HS5.out.box #[.string ⟨ra.toArray⟩, .int .i64 rb, .int .i64 rc] 65)
            clear hlk hg hrel
            go_upto_region 9 with (fail)
            generalize wr.alloc _ = w6 at *
            generalize wr.heap.size = q10 at *
            have c10 := HS6.out.cell
            have S7 := (Sp.pick [_, _, _] [2] (by decide) (HS6.out))
            have d0 := S7.cell
            have f0 := S7.free
            have HS7 := Lib.hid (((S7.set (o := 0) (.string ⟨ra.toArray⟩)).set (o := 1) (.int .i64 rb)).set (o := 2) (.int .i64 rc))
            clear S7 hlk' HS6 HS5
            go_wp2
            rw [HW.out]
            exact bodyPost_ret (v := .tuple #[.agg #[.string ⟨ra.toArray⟩, .int .i64 rb, .int .i64 rc], .bool true]) (by simp [results, Tryz.results29, go_sem, d0]) rfl ⟨rfl, HS7.out.ext⟩
          | none =>
            have HRU : Hid ((match dotR s with | some d2 => rlUp l s.length d2 | none => rlFind l [42]) = route l d) := by
              unfold Hid
              rw [← hrel]
              conv => rhs; unfold rlUp
              rw [hg]
              rfl
            rw [hg] at hlk
            have hlk' : (Instr.lookup 104 (.map (some m)) (.string ⟨s.toArray⟩) true).run Tryz.prog wr = .ok (.tuple #[.agg #[.string ⟨#[]⟩, .int .i64 0, .int .i64 0], .bool false]) wr := hlk
            have HS6 := Lib.hid (HS5.out.new (.cells #[.string ⟨#[]⟩, .int .i64 0, .int .i64 0] 65))
            clear hlk hg hrel
            go_wp2_with fail
            obtain ⟨mx, hmx⟩ := (HE.out.ext HS6.out.ext).max
            have hdc := dot_cut s
            refine (Tryz.strings_Cut ⟨s.toArray⟩ ⟨#[46]⟩ mx _ (by show s.length < _; have := HSL.out; omega) hmx).mono ?_
            rw [show (ByteArray.mk s.toArray).data.toList = s from rfl, show (ByteArray.mk #[46]).data.toList = [46] from rfl]
            generalize Lib.cut s [46] = ct at *
            obtain ⟨c1, c2, c3⟩ := ct
            dsimp only at *
            rintro e w7 ⟨rfl, nd, rfl⟩
            have HS7 := Lib.hid (HS6.out.drewN nd)
            cases hds : dotR s with
            | some d2 =>
              rw [hds] at hdc
              have hru := HRU.out
              rw [hds] at hru
              simp only [Prod.mk.injEq] at hdc
              obtain ⟨rfl, rfl⟩ := hdc
              have HL2 := Lib.hid (dotR_len hds)
              have HRQ : Hid (rlUp l (c2.length + 1) c2 = route l d) := by
                unfold Hid
                rw [← hru]
                have := HL2.out
                exact rlUp_more l _ _ _ (by omega) (by omega)
              clear hds hru hlk' HRU hmx
              go_wp2_with fail
              go_roundw
              case rel => exact ⟨c2, true, rfl, rfl, by have := HL2.out; have := HSL.out; omega, HRQ.out, HS7.out⟩
              case measure => have := HL2.out; show c2.length + 1 < s.length + 1; omega
            | none =>
              rw [hds] at hdc
              have hru := HRU.out
              rw [hds] at hru
              simp only [Prod.mk.injEq] at hdc
              obtain ⟨rfl, rfl⟩ := hdc
              have HRQ := Lib.hid hru
              clear hds hru hlk' HRU hmx
              go_wp2_with fail
              go_roundw
              case rel => exact ⟨[], false, rfl, rfl, Nat.zero_le _, HRQ.out, HS7.out⟩
              case measure => simp
        | false =>
          rw [if_neg (by simp)] at hrel
          have hlk := HS5.out.map.lookOk (t := 104) keyedStrP Tryz.underlying104 (rlZero _) (keyStrP [42] (by decide))
          rw [Mp.has_eq, HGT.out] at hlk
          cases hg : rlFind l [42] with
          | some r =>
            have HW : Hid (route l d = some r) := by unfold Hid; rw [← hrel, hg]
            rw [hg] at hlk
            obtain ⟨ra, rb, rc⟩ := r
            have hlk' : (Instr.lookup 104 (.map (some m)) (.string ⟨#[42]⟩) true).run Tryz.prog wr = .ok (.tuple #[.agg #[.string ⟨ra.toArray⟩, .int .i64 rb, .int .i64 rc], .bool true]) wr := hlk
            have HS6 := Lib.hid (HS5.out.box #[.string ⟨ra.toArray⟩, .int .i64 rb, .int .i64 rc] 65)
            clear hlk hg hrel
            go_upto_region 12 with (fail)
            generalize wr.alloc _ = w6 at *
            generalize wr.heap.size = q10 at *
            have c10 := HS6.out.cell
            have S7 := (Sp.pick [_, _, _] [2] (by decide) (HS6.out))
            have d0 := S7.cell
            have f0 := S7.free
            have HS7 := Lib.hid (((S7.set (o := 0) (.string ⟨ra.toArray⟩)).set (o := 1) (.int .i64 rb)).set (o := 2) (.int .i64 rc))
            clear S7 hlk' HS6 HS5
            go_wp2
            rw [HW.out]
            exact bodyPost_ret (v := .tuple #[.agg #[.string ⟨ra.toArray⟩, .int .i64 rb, .int .i64 rc], .bool true]) (by simp [results, Tryz.results29, go_sem, d0]) rfl ⟨rfl, HS7.out.ext⟩
          | none =>
            have HW : Hid (route l d = none) := by unfold Hid; rw [← hrel, hg]
            rw [hg] at hlk
            have hlk' : (Instr.lookup 104 (.map (some m)) (.string ⟨#[42]⟩) true).run Tryz.prog wr = .ok (.tuple #[.agg #[.string ⟨#[]⟩, .int .i64 0, .int .i64 0], .bool false]) wr := hlk
            have HS6 := Lib.hid (HS5.out.box #[.string ⟨#[]⟩, .int .i64 0, .int .i64 0] 65)
            clear hlk hg hrel
            go_upto_region 12 with (fail)
            generalize wr.alloc _ = w6 at *
            generalize wr.heap.size = q10 at *
            have c10 := HS6.out.cell
            have S7 := (Sp.pick [_, _, _] [2] (by decide) (HS6.out))
            have d0 := S7.cell
            have f0 := S7.free
            have HS7 := Lib.hid (((S7.set (o := 0) (.string ⟨#[]⟩)).set (o := 1) (.int .i64 0)).set (o := 2) (.int .i64 0))
            clear S7 hlk' HS6 HS5
            go_wp2
            rw [HW.out]
            exact bodyPost_ret (v := .tuple #[.agg #[.string ⟨#[]⟩, .int .i64 0, .int .i64 0], .bool false]) (by simp [results, Tryz.results29, go_sem, d0]) rfl ⟨rfl, HS7.out.ext⟩
  · have HW : Hid (route l d = none) := by unfold Hid; rw [HV.out, if_neg (fun h => hf h.1)]
    have hb : (f == 0) = false := by simpa using hf
    have hb' : (f != 0) = true := by simpa using hf
    clear HV hf HM
    go_wp2
    rw [HW.out]
    exact bodyPost_ret (v := .tuple #[.agg #[.string ⟨#[]⟩, .int .i64 0, .int .i64 0], .bool false]) (by simp [results, Tryz.results29, go_sem, c2]) rfl ⟨rfl, HSZ.out.ext⟩
end
end Go.Proofs.YtapenolbbofjkaaGreatDoor
