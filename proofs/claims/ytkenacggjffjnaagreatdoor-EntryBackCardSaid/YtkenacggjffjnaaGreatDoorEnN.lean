/- entry: a file's name. Conditions: the lengths fit; what Go's variables hold. -/
import Derived.Test.YtkenacggjffjnaaGreatDoorEnH
import Derived.Test.YtkenacggjffjnaaGreatDoorFmt
import Derived.Test.YtkenacggjffjnaaGreatDoorRow0
set_option linter.unusedSimpArgs false
set_option linter.unusedVariables false
set_option linter.unnecessarySimpa false
namespace Go.Proofs.YtkenacggjffjnaaGreatDoor
open Go.RowKit Go.Maps

theorem nDig_le9 {n k : Nat} (hk : 1 ≤ k) (h : n < 10 ^ k) : Lib.nDigits n ≤ k := by
  induction k generalizing n with
  | zero => omega
  | succ k ih =>
    by_cases h10 : n < 10
    · rw [Lib.nDigits_small h10]; omega
    · rw [Lib.nDigits_big h10]
      have hk1 : 1 ≤ k := by
        rcases Nat.eq_zero_or_pos k with rfl | h0
        · simp at h; omega
        · exact h0
      have := ih hk1 (n := n / 10) (by rw [Nat.pow_succ] at h; omega)
      omega
theorem dec_len9 (n : Nat) (h : n < 18446744073709551616) : (Lib.decDigits n).length ≤ 1000 := by
  rw [Lib.decDigits_length]
  exact Nat.le_trans (nDig_le9 (k := 20) (by decide) (by omega)) (by decide)
section
variable {w0 w : World} {L : List Res} {v : Value}
theorem name_join (a b c : Bs) : [113, 47] ++ Lib.join [a, b, c] [46] = [113, 47] ++ a ++ [46] ++ b ++ [46] ++ c := by
  simp [Lib.join]
theorem join3_len {a b c : Bs} (h1 : a.length ≤ 1000) (h2 : b.length ≤ 1000) (h3 : c.length ≤ 1000) : (Lib.join [a, b, c] [46]).length ≤ 4000 := by
  have := congrArg List.length (name_join a b c)
  simp at this
  omega
set_option maxRecDepth 100000 in
set_option maxHeartbeats 4000000 in
theorem enNameS (e : En) (E : Env w0) (hf : e.Fit) (S : Sp w0 [] w L) : Calls Tryz.prog 16 #[enAgg e v] w fun r w2 => r = .returned (.string ⟨(enName e).toArray⟩) ∧ Sp w0 [] w2 L := by
  have HS0 := Lib.hid (S.box (enCells e v) 27)
  have HE := Lib.hid E
  obtain ⟨id, dom, ep, cnt, frm, rcs, born, nxt, tries⟩ := e
  have h1 : id < 18446744073709551616 := hf.id
  have h2 : ep < 18446744073709551616 := hf.ep
  have h3 : cnt < 18446744073709551616 := hf.cnt
  have HF1 := Lib.hid (fun (w' : World) (L' : List Res) (S' : Sp w0 [] w' L') => formatUint id h1 w' (E.sp S'))
  have HF2 := Lib.hid (fun (w' : World) (L' : List Res) (S' : Sp w0 [] w' L') => formatUint ep h2 w' (E.sp S'))
  have HF3 := Lib.hid (fun (w' : World) (L' : List Res) (S' : Sp w0 [] w' L') => formatUint cnt h3 w' (E.sp S'))
  have HD1 := Lib.hid (dec_len9 id h1)
  have HD2 := Lib.hid (dec_len9 ep h2)
  have HD3 := Lib.hid (dec_len9 cnt h3)
  have HV : Hid (enName ⟨id, dom, ep, cnt, frm, rcs, born, nxt, tries⟩ = [113, 47] ++ Lib.decDigits id ++ [46] ++ Lib.decDigits ep ++ [46] ++ Lib.decDigits cnt) := rfl
  unfold enCells at HS0
  unfold enAgg
  dsimp only at *
  clear S E hf h1 h2 h3
  go_enter Tryz.func16, Tryz.ntmps16
  go_upto_region 1 with (fail)
  generalize w.alloc (.cells #[.int .u64 id, .string ⟨dom.toArray⟩, .int .u64 ep, .int .u64 cnt, .string ⟨frm.1.toArray⟩, .string ⟨frm.2.toArray⟩, v, .int .u64 born, .int .u64 nxt, .int .i64 tries] 27) = w1 at *
  generalize w.heap.size = q6 at *
  have c1 := HS0.out.cell
  generalize Lib.decDigits id = d1 at *
  generalize Lib.decDigits ep = d2 at *
  generalize Lib.decDigits cnt = d3 at *
  go_wp2_with fail
  go_loopw [3, 13] (fun v3 at0 wr => ∃ (k : Nat), at0 = .int .i64 k ∧ k ≤ 3 ∧ Sp w0 [] wr (textsR v3 ([d1, d2, d3].take k) :: L)) (fun _ at0 _ => 3 - (intOf at0).toNat)
  case atStart => exact ⟨0, rfl, Nat.zero_le _, HS0.out.drop.textsNil⟩
  case round =>
    obtain ⟨k, rfl, hk, S1⟩ := hrel
    have HS1 := Lib.hid S1
    clear S1
    by_cases h0 : k = 3
    · subst h0
      obtain ⟨g, cap, rfl⟩ : ∃ g cap, u3 = .slice (some ⟨g, 0, none⟩) 3 cap := by
        rcases HS1.out.rowForm with ⟨_, h⟩ | h
        · simp at h
        · exact h
      have hg := HS1.out.row.lt g (by rfl)
      have hcap : 3 ≤ cap := by
        rcases HS1.out.row.2 with ⟨h, _⟩ | ⟨g', cap', cur, h1, _, _, h4, _⟩
        · cases h
        · cases h1; exact h4
      have HJ := Lib.hid (Tryz.strings_Join g 0 cap [⟨d1.toArray⟩, ⟨d2.toArray⟩, ⟨d3.toArray⟩] ⟨#[46]⟩ wr (fun j x hx => by
          have h := HS1.out.row.cells (g := g) rfl j (.string x) (by
            match j, hx with
            | 0, hx => cases hx; rfl
            | 1, hx => cases hx; rfl
            | 2, hx => cases hx; rfl)
          have hadd : (⟨g, 0, none⟩ : Addr).add j = ⟨g, 0 + j, none⟩ := by unfold Addr.add; split <;> simp_all
          rw [hadd] at h
          exact h) hg.2 (by simp) hcap (by have := join3_len HD1.out HD2.out HD3.out; show (Lib.join [d1, d2, d3] [46]).length ≤ _; omega))
      have HLN : Hid ((Lib.join [d1, d2, d3] [46]).length ≤ 4000) := join3_len HD1.out HD2.out HD3.out
      have HJV : Hid ([113, 47] ++ Lib.join [d1, d2, d3] [46] = enName ⟨id, dom, ep, cnt, frm, rcs, born, nxt, tries⟩) := by unfold Hid; rw [HV.out, name_join]
      have HJ2 : Hid (Calls Tryz.prog 47 #[.slice (some ⟨g, 0, none⟩) 3 cap, .string ⟨#[46]⟩] wr fun e w' => e = .returned (.string ⟨(Lib.join [d1, d2, d3] [46]).toArray⟩) ∧ Below wr.heap.size wr w') := HJ.out
      generalize Lib.join [d1, d2, d3] [46] = jj at *
      have hadd := add_str [113, 47] jj (by have := HLN.out; unfold maxLen; simp; omega)
      clear hg hcap HJ
      go_wp2_with fail
      refine HJ2.out.mono ?_
      rintro r w2 ⟨rfl, hb⟩
      have HSB := Lib.hid (HS1.out.drop.ext0 (Ext.of_below hb))
      clear hb
      go_wp2
      go_ret
      exact ⟨by rw [← HJV.out]; rfl, HSB.out⟩
    · rcases (by omega : k = 0 ∨ k = 1 ∨ k = 2) with rfl | rfl | rfl
      · have hi : ∀ W, (Instr.index 70 (.agg #[.int .u64 id, .int .u64 ep, .int .u64 cnt]) (.int .i64 0)).run Tryz.prog W = .ok (.int .u64 id) W := fun W => idx3 _ _ _ 0 (by omega) W
        go_wp2_with fail
        refine (HF1.out _ _ HS1.out).mono ?_
        rintro r w2 ⟨rfl, hg⟩
        obtain ⟨g2, cap2, w6, hrun, S6⟩ := Sp.appendText 55 d1 (by simp) ((HS1.out.ext0 hg.ext).box #[.string ⟨d1.toArray⟩] 9)
        have HS6 := Lib.hid S6
        have HRUN := Lib.hid hrun
        clear S6 hrun hg HS1
        go_wp2_with (at_builtin; refine wpList_append_run (by rfl) (by rfl) (by rfl) (by rfl) HRUN.out ?_)
        go_roundw
        case rel => exact ⟨1, by go_num, by omega, HS6.out⟩
        case measure => simp [intOf]
      · have hi : ∀ W, (Instr.index 70 (.agg #[.int .u64 id, .int .u64 ep, .int .u64 cnt]) (.int .i64 1)).run Tryz.prog W = .ok (.int .u64 ep) W := fun W => idx3 _ _ _ 1 (by omega) W
        go_wp2_with fail
        refine (HF2.out _ _ HS1.out).mono ?_
        rintro r w2 ⟨rfl, hg⟩
        obtain ⟨g2, cap2, w6, hrun, S6⟩ := Sp.appendText 55 d2 (by simp) ((HS1.out.ext0 hg.ext).box #[.string ⟨d2.toArray⟩] 9)
        have HS6 := Lib.hid S6
        have HRUN := Lib.hid hrun
        clear S6 hrun hg HS1
        go_wp2_with (at_builtin; refine wpList_append_run (by rfl) (by rfl) (by rfl) (by rfl) HRUN.out ?_)
        go_roundw
        case rel => exact ⟨2, by go_num, by omega, HS6.out⟩
        case measure => simp [intOf]
      · have hi : ∀ W, (Instr.index 70 (.agg #[.int .u64 id, .int .u64 ep, .int .u64 cnt]) (.int .i64 2)).run Tryz.prog W = .ok (.int .u64 cnt) W := fun W => idx3 _ _ _ 2 (by omega) W
        go_wp2_with fail
        refine (HF3.out _ _ HS1.out).mono ?_
        rintro r w2 ⟨rfl, hg⟩
        obtain ⟨g2, cap2, w6, hrun, S6⟩ := Sp.appendText 55 d3 (by simp) ((HS1.out.ext0 hg.ext).box #[.string ⟨d3.toArray⟩] 9)
        have HS6 := Lib.hid S6
        have HRUN := Lib.hid hrun
        clear S6 hrun hg HS1
        go_wp2_with (at_builtin; refine wpList_append_run (by rfl) (by rfl) (by rfl) (by rfl) HRUN.out ?_)
        go_roundw
        case rel => exact ⟨3, by go_num, by omega, HS6.out⟩
        case measure => simp [intOf]
end
end Go.Proofs.YtkenacggjffjnaaGreatDoor
