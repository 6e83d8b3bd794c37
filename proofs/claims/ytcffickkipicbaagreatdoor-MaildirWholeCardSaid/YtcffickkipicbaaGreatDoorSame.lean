/- Slices of texts, as they are read; posthornref08.Same. No condition. -/
import Derived.Test.YtcffickkipicbaaGreatDoorArgs0
import Derived.Test.YtcffickkipicbaaGreatDoorSp
import Derived.Test.YtcffickkipicbaaGreatDoorStrs
import Derived.Deep.QuietTactic
import Derived.BigQuiet
set_option linter.unusedSimpArgs false
set_option linter.unusedVariables false
set_option linter.unnecessarySimpa false
namespace Go.Proofs.YtcffickkipicbaaGreatDoor
open Go.RowKit Go.Maps Go.Sort

/-- A slice value that reads as texts. -/
def TextsAt (w : World) (v : Value) (l : List Bs) : Prop := ∃ a cap, v = .slice a l.length cap ∧ l.length ≤ maxLen ∧ RowsAt w a 1 (l.map fun s => [.string ⟨s.toArray⟩])
theorem TextsAt.ext {w w2 : World} {v : Value} {l : List Bs} (h : TextsAt w v l) (hx : Ext [] w w2) : TextsAt w2 v l := by
  obtain ⟨a, cap, h1, h2, h3⟩ := h
  exact ⟨a, cap, h1, h2, h3.ext hx⟩
theorem Strs.texts {w : World} {v : Value} {l : List Bs} (h : Strs w v l) : TextsAt w v l := by
  rcases h.2 with ⟨rfl, h0⟩ | ⟨g, cap, cur, rfl, hb, hg, hnc, hcm, hcs, htake⟩
  · have : l = [] := List.eq_nil_of_length_eq_zero h0
    subst this
    exact ⟨none, 0, rfl, Nat.zero_le _, .inl rfl⟩
  · refine ⟨_, cap, rfl, by omega, .inr ⟨g, 0, rfl, fun i r hr j v hv => ?_⟩⟩
    simp only [List.getElem?_map, Option.map_eq_some_iff] at hr
    obtain ⟨s, hs, rfl⟩ := hr
    obtain ⟨hi, rfl⟩ := List.getElem?_eq_some_iff.1 hs
    cases j with
    | succ j => simp at hv
    | zero =>
      simp only [List.getElem?_cons_zero, Option.some.injEq] at hv
      subst hv
      have := h.cells (g := g) rfl i (encStr l[i]) (by simp [hi])
      rw [show (⟨g, 0 + i * 1 + 0, none⟩ : Addr) = (⟨g, 0, none⟩ : Addr).add i by simp [Addr.add]]
      exact this
theorem texts_cell {w : World} {b off : Nat} {l : List Bs} (h : RowsAt w (some ⟨b, off, none⟩) 1 (l.map fun s => [.string ⟨s.toArray⟩])) (i : Nat) (hi : i < l.length) : w.cell? ⟨b, off + i, none⟩ = some (.string ⟨(l[i]).toArray⟩) := by
  have := h.at i [.string ⟨(l[i]).toArray⟩] (by simp [hi]) 0 _ rfl
  simpa using this
theorem strs_of_trod {H : Type} {enc : TypeId × Value → H} {w : World} {base : Nat} {spare : Nat → Bool} {held : Bool} {fuel : Nat} {v : Value} {x : DataW H × List MemPlace} (h : DataW.trod enc Tryz.prog w base spare held fuel 38 [v] = some x) : ∃ l, TextsAt w v l := by
  rcases Go.Deep.open_slice Tryz.underlying38 h with h0 | ⟨a, len, cap, m, n, D, Pl, hcs, hb, hl, hm, hmm, hx, hi⟩
  · have h0 := h0.1
    simp only [List.cons.injEq, and_true] at h0
    exact ⟨[], none, 0, h0, Nat.zero_le _, .inl rfl⟩
  · simp only [List.cons.injEq, and_true] at hcs
    subst hcs
    by_cases h0 : len = 0
    · subst h0
      exact ⟨[], _, _, rfl, Nat.zero_le _, .inl rfl⟩
    · have hC : Tryz.prog.cellsOf 9 = 1 := by kernel_rfl
      obtain ⟨l, h1, _, h3⟩ := rows_all (α := Bs) (a := a) (len := len) (k := 1) (fun s => [.string ⟨s.toArray⟩]) (fun _ => True) (fun _ => rfl) [] (fun i hil => by
        obtain ⟨cs', hc, ht'⟩ := hi i (by rw [hmm]; split <;> omega)
        rw [hC] at hc
        obtain ⟨_, hcl, hat⟩ := World.cells?_some hc
        obtain ⟨s, e0, _, _⟩ := DataW.trod_string Tryz.underlying9 ht'
        subst e0
        refine ⟨s.data.toList, trivial, fun j u hj => ?_⟩
        cases j with
        | succ j => simp at hj
        | zero =>
          simp only [List.getElem?_cons_zero, Option.some.injEq] at hj
          subst hj
          have := hat 0 (by omega)
          rw [← Go.Deep.add_add]
          simpa using this) (by omega)
      exact ⟨l, some a, cap, by rw [h1], by omega, h3⟩
set_option maxRecDepth 100000 in
set_option maxHeartbeats 1000000 in
theorem same_any (va vb : Value) (l m : List Bs) (w : World) (ha : TextsAt w va l) (hb : TextsAt w vb m) :
    Calls Tryz.prog 35 #[va, vb] w fun e w2 => e = .returned (.bool (decide (l = m))) ∧ Ext [] w w2 := by
  obtain ⟨a, cap, rfl, hl, ha⟩ := ha
  obtain ⟨b, cap2, rfl, hm, hb⟩ := hb
  unfold maxLen at hl hm
  have hl' : (l.length : Int) ≤ 9223372036854775807 := by omega
  have hm' : (m.length : Int) ≤ 9223372036854775807 := by omega
  have HA := Lib.hid ha
  have HB := Lib.hid hb
  clear ha hb
  by_cases hlm : l.length = m.length
  · have t1 : ((l.length : Int) != (m.length : Int)) = false := by simp [hlm]
    have HLM := Lib.hid hlm
    clear hlm hm hm'
    go_enter Tryz.func35, Tryz.ntmps35
    go_wp2_with fail
    go_loopw [5] (fun v wr => ∃ i : Nat, v = .int .i64 i ∧ i ≤ l.length ∧ l.take i = m.take i ∧ Ext [] w wr) (fun v _ => l.length - (intOf v).toNat)
    case atStart => exact ⟨0, rfl, by omega, by simp, Ext.refl _ _⟩
    case round =>
      obtain ⟨i, rfl, hi, hti, hx⟩ := hrel
      have HT := Lib.hid hti
      have HX := Lib.hid hx
      clear hti hx
      by_cases hlt : i < l.length
      · have hlt2 : i < m.length := by have := HLM.out; omega
        have HLT : Hid (i < l.length ∧ i < m.length) := ⟨hlt, hlt2⟩
        have ra := HA.out.ext HX.out
        have rb := HB.out.ext HX.out
        obtain ⟨b1, o1, rfl⟩ := ra.addr (i := i) (by simpa using hlt)
        obtain ⟨b2, o2, rfl⟩ := rb.addr (i := i) (by simpa using hlt2)
        have c1 := texts_cell ra i hlt
        have c2 := texts_cell rb i hlt2
        have h2' : (i : Int) < m.length := by omega
        have h1' : (i : Int) < l.length := by omega
        obtain ⟨x, hx⟩ : ∃ x, x = l[i] := ⟨_, rfl⟩
        obtain ⟨y, hy⟩ : ∃ y, y = m[i] := ⟨_, rfl⟩
        rw [← hx] at c1
        rw [← hy] at c2
        have HXL := Lib.hid hx
        have HYM := Lib.hid hy
        clear ra rb hx hy
        by_cases hxy : x = y
        · have t2 : (x == y) = true := by simpa using hxy
          have t3 : (x != y) = false := by simpa using hxy
          have HXY := Lib.hid hxy
          clear hxy
          go_wp2_with fail
          go_quiet (fail)
          go_wp2
          go_roundw
          case rel =>
            refine ⟨i + 1, by go_num, by omega, ?_, HX.out.drewN _⟩
            rw [List.take_succ_eq_append_getElem HLT.out.1, List.take_succ_eq_append_getElem HLT.out.2, HT.out, ← HXL.out, ← HYM.out, HXY.out]
          case measure => simp [intOf]; omega
        · have t2 : (x == y) = false := by simpa using hxy
          have t3 : (x != y) = true := by simpa using hxy
          have HXY := Lib.hid hxy
          clear hxy
          go_wp2_with fail
          go_quiet (fail)
          go_wp2
          go_ret
          refine ⟨ret_bool ?_, HX.out.drewN _⟩
          have : l ≠ m := fun e => HXY.out (by rw [HXL.out, HYM.out]; simp only [e])
          simp [this]
      · go_wp2
        go_ret
        refine ⟨ret_bool ?_, HX.out⟩
        have := HT.out
        rw [List.take_of_length_le (by omega), List.take_of_length_le (by have := HLM.out; omega)] at this
        simp [this]
  · have t1 : ((l.length : Int) != (m.length : Int)) = true := by simp; omega
    have HNE : Hid (l ≠ m) := fun e => hlm (by rw [e])
    clear hlm
    go_enter Tryz.func35, Tryz.ntmps35
    go_wp2
    go_ret
    exact ⟨ret_bool (by simp [HNE.out]), Ext.refl _ _⟩
end Go.Proofs.YtcffickkipicbaaGreatDoor
