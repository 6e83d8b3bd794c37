/- cmd: what was read fits. No condition. server: line. Conditions: the lengths fit; what Go's variables hold. server: command. Conditions: the lengths fit; what Go's variables hold. server: take, Verdict, Add, Phase, Open. Conditions: the lengths fit; what Go's variables hold. -/
import Derived.Test.YtapenolbbofjkaaGreatDoorCmV
import Derived.Test.YtapenolbbofjkaaGreatDoorSvI
/-! CmF -/
set_option linter.unusedSimpArgs false
set_option linter.unusedVariables false
set_option linter.unnecessarySimpa false
namespace Go.Proofs.YtapenolbbofjkaaGreatDoor

theorem trimSp_len (s : Bs) : (trimSp s).length ≤ s.length := by
  unfold trimSp Lib.trimB Lib.trimLeftB Lib.trimRightB
  have h1 := (List.dropWhile_sublist (p := fun x : UInt8 => x == 32) (l := (s.reverse.dropWhile fun x => x == 32).reverse)).length_le
  have h2 := (List.dropWhile_sublist (p := fun x : UInt8 => x == 32) (l := s.reverse)).length_le
  simp only [List.length_reverse] at h1 h2
  omega
theorem domV_len (s : Bs) : (domV s).1.length ≤ s.length := by
  unfold domV
  split
  · simp [smallB]
  · simp
theorem boxC_box {x s : Bs} {q : Mb × Bs} (h : boxC x s = some q) : q.1.1.length ≤ s.length ∧ q.1.2.length ≤ s.length := by
  unfold boxC at h
  split at h
  · simp only [Option.bind_eq_some_iff] at h
    obtain ⟨s1, h1, h2⟩ := h
    have l1 := rdWord_len h1
    have l2 := rdPath_len h2
    have l3 := spR_len s1
    have l4 := spR_len s
    omega
  · cases h
theorem moreC_fit {v : Int} {s : Bs} {c : Cm} (h : moreC v s = some c) : c.text.length ≤ s.length ∧ c.box.1.length ≤ s.length ∧ c.box.2.length ≤ s.length ∧ -1 ≤ c.size ∧ c.size ≤ 999999999999 := by
  have ht := trimSp_len s
  unfold moreC at h
  split at h
  · split at h
    · cases h
      have := domV_len (trimSp s)
      refine ⟨?_, ?_, ?_, ?_, ?_⟩ <;> simp <;> omega
    · cases h
  · split at h
    · simp only [Option.bind_eq_some_iff, Option.map_eq_some_iff] at h
      obtain ⟨q, h1, r, h2, rfl⟩ := h
      have l1 := boxC_box h1
      have l2 := mailL_may _ _ _ _ _ _ h2 (by decide)
      exact ⟨by simp, l1.1, l1.2, l2.1, l2.2⟩
    · split at h
      · simp only [Option.bind_eq_some_iff] at h
        obtain ⟨q, h1, h2⟩ := h
        split at h2
        · cases h2
          have l1 := boxC_box h1
          exact ⟨by simp, l1.1, l1.2, Int.le_refl _, (show (-1 : Int) ≤ 999999999999 by decide)⟩
        · cases h2
      · split at h
        · split at h
          · cases h
            exact ⟨ht, by simp, by simp, Int.le_refl _, (show (-1 : Int) ≤ 999999999999 by decide)⟩
          · cases h
        · split at h
          · cases h
            exact ⟨by simp, by simp, by simp, Int.le_refl _, (show (-1 : Int) ≤ 999999999999 by decide)⟩
          · cases h
/-- A command that was read fits. -/
theorem cmParse_fit {s : Bs} {d : Cm} (h : cmParse s = (d, 0)) : d.text.length ≤ s.length ∧ d.box.1.length ≤ s.length ∧ d.box.2.length ≤ s.length ∧ -1 ≤ d.size ∧ d.size ≤ 999999999999 := by
  have hr := valR_len s
  unfold cmParse at h
  split at h
  · simp at h
  · split at h
    · rename_i c hc
      cases h
      have := moreC_fit hc
      omega
    · simp at h
theorem cmParse_len (s : Bs) : (cmParse s).1.text.length ≤ s.length ∧ (cmParse s).1.box.1.length ≤ s.length ∧ (cmParse s).1.box.2.length ≤ s.length := by
  generalize h : cmParse s = q
  obtain ⟨d, e⟩ := q
  by_cases he : e = 0
  · subst he
    have := cmParse_fit h
    exact ⟨this.1, this.2.1, this.2.2.1⟩
  · have := cmParse_bad h he
    subst this
    exact ⟨Nat.zero_le _, Nat.zero_le _, Nat.zero_le _⟩
end Go.Proofs.YtapenolbbofjkaaGreatDoor

/-! SvL -/
namespace Go.Proofs.YtapenolbbofjkaaGreatDoor
open Go.RowKit Go.Maps

def unstP (s : Bs) : Bs × Bool := if s = [46] then ([], true) else (undot s, false)
theorem trim_undot (s : Bs) : Lib.trimPrefix s [46] = undot s := by
  cases s with
  | nil => rfl
  | cons c r =>
    by_cases h : c = 46
    · subst h; simp [Lib.trimPrefix, Lib.hasPrefix, undot]
    · have h2 : ¬ 46 = c := fun e => h e.symm
      simp [Lib.trimPrefix, Lib.hasPrefix, undot, h, h2]
section
variable {w0 w w2 : World} {L : List Res} {p : Nat} {s : Sv} {K : List Rom} {v : Value} {r : Res}
set_option maxRecDepth 100000 in
set_option maxHeartbeats 1000000 in
theorem unstuffP_any (s : Bs) (w : World) : Calls Tryz.prog 90 #[.string ⟨s.toArray⟩] w fun e w2 => e = .returned (.tuple #[.string ⟨(unstP s).1.toArray⟩, .bool (unstP s).2]) ∧ w = w2 := by
  by_cases h1 : s = [46]
  · subst h1
    have HU : Hid (unstP [46] = ([], true)) := rfl
    rw [HU.out]
    go_enter Tryz.func90, Tryz.ntmps90
    go_wp2
    go_ret2
    exact ⟨rfl, rfl⟩
  · have HU : Hid (unstP s = (undot s, false)) := by unfold Hid unstP; rw [if_neg h1]
    rw [HU.out]
    have hb : (s == [46]) = false := by simpa using h1
    have HT := Lib.hid (Tryz.strings_TrimPrefix ⟨s.toArray⟩ ⟨#[46]⟩ w)
    have HTU : Hid (Lib.trimPrefix s [46] = undot s) := trim_undot s
    clear h1
    go_enter Tryz.func90, Tryz.ntmps90
    go_wp2_with fail
    refine HT.out.mono ?_
    rintro e w2 ⟨rfl, rfl⟩
    rw [show Lib.trimPrefix (⟨s.toArray⟩ : ByteArray).data.toList (⟨#[46]⟩ : ByteArray).data.toList = undot s from HTU.out]
    go_wp2
    go_ret2
    exact ⟨rfl, rfl⟩
theorem SvAt.size (A : SvAt w0 L p s K w) (n : Nat) : SvAt w0 L p { s with t := { s.t with size := n } } K (w.setCell ⟨p, 12, none⟩ (.int .i64 n)) := by
  obtain ⟨X, hX, S⟩ := A
  exact ⟨X, ⟨hX.rules, hX.boxes, hX.queue, hX.evs⟩, S.set (o := 12) (.int .i64 n)⟩
/-- A line is put behind the others. -/
theorem SvAt.addLine (A : SvAt w0 L p s K w) (x : Bs) (hn : s.t.lines.length ≤ 1000000) : ∃ X : SvV, (∀ o, w.cell? ⟨p, o, none⟩ = (svCells s X)[o]?) ∧ p < w.heap.size ∧ ∃ g cap w2, (Builtin.append_ #[22, 22] 22 #[X.vl, .slice (some ⟨w.heap.size, 0, none⟩) 1 1]).run Tryz.prog (w.alloc (.cells #[.string ⟨x.toArray⟩] 9)).drew = .ok (.slice (some ⟨g, 0, none⟩) (s.t.lines.length + 1) cap) w2 ∧
    (∀ o, w2.cell? ⟨p, o, none⟩ = (svCells s X)[o]?) ∧ (∀ o, w2.frozen? ⟨p, o, none⟩ = false) ∧ SvAt w0 L p { s with t := { s.t with lines := s.t.lines ++ [x] } } K (w2.setCell ⟨p, 11, none⟩ (.slice (some ⟨g, 0, none⟩) (s.t.lines.length + 1) cap)) := by
  obtain ⟨X, hX, S⟩ := A
  obtain ⟨g, cap, w2, hr, S2⟩ := Sp.appendText 22 x (by omega) ((Sp.pick [_, _, _, _, _, _, _] [0, 4, 1, 2, 3, 5, 6] (by decide) ((S.box #[.string ⟨x.toArray⟩] 9).drew)))
  have S3 := S2.pull1
  refine ⟨X, S.cell, S.boxlt, g, cap, w2, hr, S3.cell, S3.free, { X with vl := .slice (some ⟨g, 0, none⟩) (s.t.lines.length + 1) cap }, ⟨hX.rules, hX.boxes, hX.queue, hX.evs⟩, ?_⟩
  exact (Sp.pick [_, _, _, _, _, _] [0, 2, 3, 1, 4, 5] (by decide) ((S3.set (o := 11) (.slice (some ⟨g, 0, none⟩) (s.t.lines.length + 1) cap))))
set_option maxRecDepth 100000 in
set_option maxHeartbeats 4000000 in
theorem svLineS (l : Bs) (hl : l.length ≤ 1000000) (hg : s.Good) (A : SvAt w0 L p s K w) : Calls Tryz.prog 68 #[.pointer (some ⟨p, 0, none⟩), .string ⟨l.toArray⟩] w fun e w2 => e = .returned (.tuple #[]) ∧ ∃ K2, (∀ x ∈ K, x ∈ K2) ∧ SvAt w0 L p (s.line l) K2 w2 := by
  have HUN := Lib.hid (unstuffP_any l w)
  by_cases h1 : l = [46]
  · have HW : Hid (s.line l = s.ended) := if_pos h1
    have HU : Hid (unstP l = ([], true)) := if_pos h1
    have HF := Lib.hid (svFinishS hg A)
    rw [HU.out] at HUN
    clear h1 A hg
    go_enter Tryz.func68, Tryz.ntmps68
    go_wp2_with fail
    refine HUN.out.mono ?_
    rintro e w1 ⟨rfl, rfl⟩
    go_wp2_with fail
    refine HF.out.mono ?_
    rintro e w3 ⟨rfl, K3, hk, A3⟩
    have HA3 := Lib.hid A3
    have HK := Lib.hid hk
    clear A3 hk
    go_wp2
    refine bodyPost_ret (results_none rfl _ _ _) rfl ?_
    exact ⟨rfl, K3, HK.out, by rw [HW.out]; exact HA3.out⟩
  · have HU : Hid (unstP l = (undot l, false)) := if_neg h1
    have hul : (undot l).length ≤ 1000000 := Nat.le_trans (undot_len l) hl
    obtain ⟨n, hn⟩ : ∃ n, n = min (s.t.size + (undot l).length + 2) 15001 := ⟨_, rfl⟩
    have HW : Hid (s.line l = { s with t := { s.t with size := n, lines := if n ≤ s.c.most then s.t.lines ++ [undot l] else s.t.lines } }) := by unfold Hid; rw [hn]; exact if_neg h1
    rw [HU.out] at HUN
    have hsz : (s.t.size : Int) ≤ 15001 := by have := hg.size; omega
    have hms : (s.c.most : Int) ≤ 15000 := by have := hg.fit.most; omega
    generalize undot l = u at *
    have hui : (u.length : Int) ≤ 1000000 := by omega
    have HA1 := Lib.hid (A.size n)
    obtain ⟨X, hX, c0, f0, l0⟩ := A.cell
    have hnn : (n : Int) = min ((s.t.size : Int) + u.length + 2) 15001 := by omega
    have HG := Lib.hid hg
    unfold svCells at c0
    clear A hX hg h1
    go_enter Tryz.func68, Tryz.ntmps68
    go_wp2_with fail
    refine HUN.out.mono ?_
    rintro e w1 ⟨rfl, rfl⟩
    go_upto_region 4 with (fail)
    rw [← hnn]
    clear hnn hn c0 f0 l0 hsz hui
    generalize w.setCell ⟨p, 12, none⟩ (.int .i64 n) = w3 at *
    obtain ⟨X3, hX3, c3, f3, l3⟩ := HA1.out.cell
    unfold svCells at c3
    dsimp only at c3
    clear hX3
    by_cases h2 : n ≤ s.c.most
    · have h2' : (n : Int) ≤ s.c.most := by omega
      have HW2 : Hid (s.line l = { s with t := { s.t with size := n, lines := s.t.lines ++ [u] } }) := by unfold Hid; rw [HW.out, if_pos h2]
      obtain ⟨X4, c4, l4, g, cap, w5, hrun, c5, f5, A5⟩ := HA1.out.addLine u (by
        have h := (join_parts _ _ HG.out.lines).1
        have := HG.out.size
        show s.t.lines.length ≤ 1000000
        omega)
      have HRUN := Lib.hid hrun
      have HA5 := Lib.hid A5
      clear h2 HW hrun A5
      go_still_tail 10, (by kernel_rfl)
      clear c3 f3 l3
      unfold svCells at c4 c5
      dsimp only at c4 c5
      go_wp2_with (at_builtin; refine wpList_append_run (by rfl) (by rfl) (by rfl) (by rfl) HRUN.out ?_)
      go_end0
      exact ⟨rfl, K, fun _ h => h, by rw [HW2.out]; exact HA5.out⟩
    · have h2' : ¬ (n : Int) ≤ s.c.most := by omega
      have HW2 : Hid (s.line l = { s with t := { s.t with size := n } }) := by unfold Hid; rw [HW.out, if_neg h2]
      have HA4 := Lib.hid HA1.out.drew
      clear h2 HW HA1
      go_still_tail 10, (by kernel_rfl)
      go_wp2
      go_end0
      exact ⟨rfl, K, fun _ h => h, by rw [HW2.out]; exact HA4.out⟩
end
end Go.Proofs.YtapenolbbofjkaaGreatDoor

/-! SvQ -/
namespace Go.Proofs.YtapenolbbofjkaaGreatDoor
open Go.RowKit Go.Maps

section
variable {w0 w w2 : World} {L : List Res} {p : Nat} {s : Sv} {K : List Rom} {v : Value} {r : Res}
theorem svParseS (l : Bs) (hl : l.length ≤ 1000000) (E : Env w0) (A : SvAt w0 L p s K w) : Calls Tryz.prog 92 #[.string ⟨l.toArray⟩] w fun e w2 => e = .returned (.tuple #[cmAgg (cmParse l).1, .int .i64 (cmParse l).2]) ∧ SvAt w0 L p s K w2 := by
  obtain ⟨X, hX, S⟩ := A
  refine (cmParseS l hl S E).mono ?_
  rintro e w2 ⟨rfl, S2⟩
  exact ⟨rfl, X, hX, S2⟩
theorem Sv.Good.of_say {s : Sv} {x : Int × Sv} (hx : x.2.Good) : x.2.Fit ∧ x.2.queue.length ≤ 10000 ∧ x.2.errs ≤ 10000 := ⟨hx.fit, hx.queue, hx.errs⟩
/-- A code and a session that differ in the transaction and the phase alone. -/
structure SaysOf (s : Sv) (x : Int × Sv) : Prop where
  fit : x.2.Fit
  queue : x.2.queue.length ≤ 10000
  errs : x.2.errs ≤ 10000
theorem says_of {s t : Sv} (hg : s.Good) (h1 : t.c = s.c) (h2 : t.queue = s.queue) (h3 : t.errs = s.errs) (n : Int) : SaysOf s (n, t) :=
  ⟨⟨by rw [h1]; exact hg.fit.host, by rw [h1]; exact hg.fit.most, by show t.queue.length ≤ _; rw [h2]; exact hg.fit.queue, by show t.errs ≤ _; rw [h3]; exact hg.fit.errs, by rw [h1]; exact hg.fit.rules, by rw [h1]; exact hg.fit.each, by rw [h1]; exact hg.fit.boxes⟩, by show t.queue.length ≤ _; rw [h2]; exact hg.queue, by show t.errs ≤ _; rw [h3]; exact hg.errs⟩
theorem says_from {s : Sv} (hg : s.Good) (c : Cm) : SaysOf s (s.from c) := by
  unfold Sv.from
  split
  · refine says_of hg ?_ ?_ ?_ _ <;> rfl
  split
  · refine says_of hg ?_ ?_ ?_ _ <;> rfl
  · refine says_of hg ?_ ?_ ?_ _ <;> rfl
theorem says_rcpt {s : Sv} (hg : s.Good) (c : Cm) : SaysOf s (s.rcpt c) := by
  unfold Sv.rcpt
  split
  · refine says_of hg ?_ ?_ ?_ _ <;> rfl
  split
  · refine says_of hg ?_ ?_ ?_ _ <;> rfl
  split
  · refine says_of hg ?_ ?_ ?_ _ <;> rfl
  split
  · refine says_of hg ?_ ?_ ?_ _ <;> rfl
  · refine says_of hg ?_ ?_ ?_ _ <;> rfl
theorem says_data {s : Sv} (hg : s.Good) : SaysOf s s.data := by
  unfold Sv.data
  split
  · refine says_of hg ?_ ?_ ?_ _ <;> rfl
  · refine says_of hg ?_ ?_ ?_ _ <;> rfl
set_option maxRecDepth 100000 in
set_option maxHeartbeats 8000000 in
theorem svCommandS (l : Bs) (hl : l.length ≤ 100000) (hg : s.Good) (E : Env w0) (A : SvAt w0 L p s K w) : Calls Tryz.prog 69 #[.pointer (some ⟨p, 0, none⟩), .string ⟨l.toArray⟩] w fun e w2 => e = .returned (.tuple #[]) ∧ ∃ K2, (∀ x ∈ K, x ∈ K2) ∧ SvAt w0 L p (s.command l) K2 w2 := by
  have HV : Hid (s.command l = if (cmParse l).2 = 1 then s.say 500 else if (cmParse l).2 ≠ 0 then s.say 501 else s.obey (cmParse l).1) := rfl
  have HPA := Lib.hid (svParseS l (by omega) E A)
  have hpl : (cmParse l).1.box.1.length ≤ 1000000 ∧ (cmParse l).1.box.2.length ≤ 1000000 := by
    have := cmParse_len l
    omega
  generalize hc : cmParse l = ce at *
  obtain ⟨c, e⟩ := ce
  obtain ⟨vb, tx, ⟨bl, bd⟩, sz, e8⟩ := c
  have HPL := Lib.hid hpl
  have HG := Lib.hid hg
  have HE := Lib.hid E
  unfold cmAgg at HPA
  dsimp only at *
  clear A hg hpl hc E
  have HSAY := Lib.hid (fun (c : Int) (L' : List Res) (W : World) (A' : SvAt w0 L' p s K W) => svSayS c HG.out.fit HG.out.queue HG.out.errs A')
  go_enter Tryz.func69, Tryz.ntmps69
  go_wp2_with fail
  refine HPA.out.mono ?_
  rintro ex w1 ⟨rfl, A1⟩
  have HA2 := Lib.hid (A1.box #[.int .i64 vb, .string ⟨tx.toArray⟩, .string ⟨bl.toArray⟩, .string ⟨bd.toArray⟩, .int .i64 sz, .bool e8] 131)
  clear A1 HPA
  have hfin : ∀ (W : World) (t : Sv), s.command l = t → (∃ K2, (∀ x ∈ K, x ∈ K2) ∧ SvAt w0 (boxR w1.heap.size #[.int .i64 vb, .string ⟨tx.toArray⟩, .string ⟨bl.toArray⟩, .string ⟨bd.toArray⟩, .int .i64 sz, .bool e8] 131 :: L) p t K2 W) → ∃ K2, (∀ x ∈ K, x ∈ K2) ∧ SvAt w0 L p (s.command l) K2 W := by
    rintro W t rfl ⟨K2, h1, h2⟩
    exact ⟨K2, h1, h2.drop⟩
  have HFIN := Lib.hid hfin
  clear hfin
  go_upto_region 4 with (fail)
  generalize w1.alloc _ = w2 at *
  generalize w1.heap.size = q at *
  by_cases h1 : e = 1
  · subst h1
    have HW : Hid (s.command l = s.say 500) := by unfold Hid; rw [HV.out, if_pos rfl]
    go_wp2_with fail
    refine (HSAY.out 500 _ _ HA2.out).mono ?_
    rintro ex w3 ⟨rfl, H3⟩
    have HH := Lib.hid H3
    clear H3
    go_wp2
    go_end0
    exact ⟨rfl, HFIN.out _ _ HW.out HH.out⟩
  have h1' : (e == 1) = false := by simpa using h1
  by_cases h0 : e = 0
  rotate_left
  · have h0' : (e == 0) = false := by simpa using h0
    have HW : Hid (s.command l = s.say 501) := by unfold Hid; rw [HV.out, if_neg h1, if_pos h0]
    clear h1 h0
    go_wp2_with fail
    refine (HSAY.out 501 _ _ HA2.out).mono ?_
    rintro ex w3 ⟨rfl, H3⟩
    have HH := Lib.hid H3
    clear H3
    go_wp2
    go_end0
    exact ⟨rfl, HFIN.out _ _ HW.out HH.out⟩
  subst h0
  have HV2 : Hid (s.command l = s.obey ⟨vb, tx, (bl, bd), sz, e8⟩) := by unfold Hid; rw [HV.out, if_neg (by decide), if_neg (by decide)]
  obtain ⟨cq, fq, lq⟩ := HA2.out.boxCell
  have HO : Hid (∀ c : Cm, s.obey c = if c.verb = 1 ∨ c.verb = 2 then s.meet c else if c.verb = 3 then Sv.did (s.from c) else if c.verb = 4 then Sv.did (s.rcpt c) else if c.verb = 5 then Sv.did s.data else if c.verb = 8 then s.say 221 else if c.verb = 9 then s.say 252 else if c.verb = 6 then s.forget.say 250 else s.say 250) := fun _ => rfl
  clear HV h1 h1'
  by_cases v12 : vb = 1 ∨ vb = 2
  · have HW : Hid (s.command l = s.meet ⟨vb, tx, (bl, bd), sz, e8⟩) := by unfold Hid; rw [HV2.out, HO.out, if_pos v12]
    have HGR := Lib.hid (svGreetS ⟨vb, tx, (bl, bd), sz, e8⟩ HG.out.fit HG.out.queue HE.out HA2.out)
    unfold cmAgg at HGR
    rcases v12 with rfl | rfl
    all_goals
      go_wp2_with fail
      refine HGR.out.mono ?_
      rintro ex w3 ⟨rfl, H3⟩
      have HH := Lib.hid H3
      clear H3 cq fq lq
      go_wp2
      go_end0
      exact ⟨rfl, HFIN.out _ _ HW.out HH.out⟩
  have n1 : (vb == 1) = false := by simpa using fun h => v12 (.inl h)
  have n2 : (vb == 2) = false := by simpa using fun h => v12 (.inr h)
  by_cases v3 : vb = 3
  · have HW : Hid (s.command l = Sv.did (s.from ⟨vb, tx, (bl, bd), sz, e8⟩)) := by unfold Hid; rw [HV2.out, HO.out, if_neg v12, if_pos v3]
    have HFR := Lib.hid (svFromS ⟨vb, tx, (bl, bd), sz, e8⟩ HG.out.fit HA2.out)
    have HSO := Lib.hid (says_from HG.out ⟨vb, tx, (bl, bd), sz, e8⟩)
    generalize s.from ⟨vb, tx, (bl, bd), sz, e8⟩ = x at *
    unfold cmAgg at HFR
    clear v12 n1 n2
    subst v3
    go_wp2_with fail
    refine HFR.out.mono ?_
    rintro ex w3 ⟨rfl, A3⟩
    have HA3 := Lib.hid A3
    clear A3 cq fq lq
    go_wp2_with fail
    refine (svSayS x.1 HSO.out.fit HSO.out.queue HSO.out.errs HA3.out).mono ?_
    rintro ex w4 ⟨rfl, H3⟩
    have HH := Lib.hid H3
    clear H3
    go_wp2
    go_end0
    exact ⟨rfl, HFIN.out _ _ HW.out HH.out⟩
  have n3 : (vb == 3) = false := by simpa using v3
  by_cases v4 : vb = 4
  · have HW : Hid (s.command l = Sv.did (s.rcpt ⟨vb, tx, (bl, bd), sz, e8⟩)) := by unfold Hid; rw [HV2.out, HO.out, if_neg v12, if_neg v3, if_pos v4]
    have HFR := Lib.hid (svToS ⟨vb, tx, (bl, bd), sz, e8⟩ HPL.out HG.out.fit HG.out.rcs HE.out HA2.out)
    have HSO := Lib.hid (says_rcpt HG.out ⟨vb, tx, (bl, bd), sz, e8⟩)
    generalize s.rcpt ⟨vb, tx, (bl, bd), sz, e8⟩ = x at *
    unfold cmAgg at HFR
    clear v12 n1 n2 v3 n3
    subst v4
    go_wp2_with fail
    refine HFR.out.mono ?_
    rintro ex w3 ⟨rfl, A3⟩
    have HA3 := Lib.hid A3
    clear A3 cq fq lq
    go_wp2_with fail
    refine (svSayS x.1 HSO.out.fit HSO.out.queue HSO.out.errs HA3.out).mono ?_
    rintro ex w4 ⟨rfl, H3⟩
    have HH := Lib.hid H3
    clear H3
    go_wp2
    go_end0
    exact ⟨rfl, HFIN.out _ _ HW.out HH.out⟩
  have n4 : (vb == 4) = false := by simpa using v4
  by_cases v5 : vb = 5
  · have HW : Hid (s.command l = Sv.did s.data) := by unfold Hid; rw [HV2.out, HO.out, if_neg v12, if_neg v3, if_neg v4, if_pos v5]
    have HFR := Lib.hid (svDataS HA2.out (by have := HG.out.rcs; omega))
    have HSO := Lib.hid (says_data HG.out)
    generalize s.data = x at *
    clear v12 n1 n2 v3 n3 v4 n4
    subst v5
    go_wp2_with fail
    refine HFR.out.mono ?_
    rintro ex w3 ⟨rfl, A3⟩
    have HA3 := Lib.hid A3
    clear A3 cq fq lq
    go_wp2_with fail
    refine (svSayS x.1 HSO.out.fit HSO.out.queue HSO.out.errs HA3.out).mono ?_
    rintro ex w4 ⟨rfl, H3⟩
    have HH := Lib.hid H3
    clear H3
    go_wp2
    go_end0
    exact ⟨rfl, HFIN.out _ _ HW.out HH.out⟩
  have n5 : (vb == 5) = false := by simpa using v5
  by_cases v8 : vb = 8
  · have HW : Hid (s.command l = s.say 221) := by unfold Hid; rw [HV2.out, HO.out, if_neg v12, if_neg v3, if_neg v4, if_neg v5, if_pos v8]
    clear v12 n1 n2 v3 n3 v4 n4 v5 n5
    subst v8
    go_wp2_with fail
    refine (HSAY.out 221 _ _ HA2.out).mono ?_
    rintro ex w3 ⟨rfl, H3⟩
    have HH := Lib.hid H3
    clear H3
    go_wp2
    go_end0
    exact ⟨rfl, HFIN.out _ _ HW.out HH.out⟩
  have n8 : (vb == 8) = false := by simpa using v8
  by_cases v9 : vb = 9
  · have HW : Hid (s.command l = s.say 252) := by unfold Hid; rw [HV2.out, HO.out, if_neg v12, if_neg v3, if_neg v4, if_neg v5, if_neg v8, if_pos v9]
    clear v12 n1 n2 v3 n3 v4 n4 v5 n5 v8 n8
    subst v9
    go_wp2_with fail
    refine (HSAY.out 252 _ _ HA2.out).mono ?_
    rintro ex w3 ⟨rfl, H3⟩
    have HH := Lib.hid H3
    clear H3
    go_wp2
    go_end0
    exact ⟨rfl, HFIN.out _ _ HW.out HH.out⟩
  have n9 : (vb == 9) = false := by simpa using v9
  by_cases v6 : vb = 6
  · have HW : Hid (s.command l = s.forget.say 250) := by unfold Hid; rw [HV2.out, HO.out, if_neg v12, if_neg v3, if_neg v4, if_neg v5, if_neg v8, if_neg v9, if_pos v6]
    have HSO : Hid (SaysOf s (250, s.forget)) := by unfold Hid; refine says_of HG.out ?_ ?_ ?_ _ <;> rfl
    clear v12 n1 n2 v3 n3 v4 n4 v5 n5 v8 n8 v9 n9
    subst v6
    go_wp2_with fail
    refine (svForgetS HA2.out).mono ?_
    rintro ex w3 ⟨rfl, A3⟩
    have HA3 := Lib.hid A3
    clear A3 cq fq lq
    go_wp2_with fail
    refine (svSayS 250 HSO.out.fit HSO.out.queue HSO.out.errs HA3.out).mono ?_
    rintro ex w4 ⟨rfl, H3⟩
    have HH := Lib.hid H3
    clear H3
    go_wp2
    go_end0
    exact ⟨rfl, HFIN.out _ _ HW.out HH.out⟩
  · have n6 : (vb == 6) = false := by simpa using v6
    have HW : Hid (s.command l = s.say 250) := by unfold Hid; rw [HV2.out, HO.out, if_neg v12, if_neg v3, if_neg v4, if_neg v5, if_neg v8, if_neg v9, if_neg v6]
    clear v12 v3 v4 v5 v8 v9 v6
    go_wp2_with fail
    refine (HSAY.out 250 _ _ HA2.out).mono ?_
    rintro ex w3 ⟨rfl, H3⟩
    have HH := Lib.hid H3
    clear H3
    go_wp2
    go_end0
    exact ⟨rfl, HFIN.out _ _ HW.out HH.out⟩
end
end Go.Proofs.YtapenolbbofjkaaGreatDoor

/-! SvU -/
namespace Go.Proofs.YtapenolbbofjkaaGreatDoor
open Go.RowKit Go.Maps

section
variable {w0 w w2 : World} {L : List Res} {p : Nat} {s : Sv} {K : List Rom} {v : Value} {r : Res}
theorem SvAt.long (A : SvAt w0 L p s K w) : SvAt w0 L p { s with t := { s.t with long := true } } K (w.setCell ⟨p, 13, none⟩ (.bool true)) := by
  obtain ⟨X, hX, S⟩ := A
  exact ⟨X, ⟨hX.rules, hX.boxes, hX.queue, hX.evs⟩, S.set (o := 13) (.bool true)⟩
/-- What a line is told as: itself, or that it is too long. -/
def lnTold (l : Bs) : Bs × Int := if 1000 < l.length then ([], 5) else (l, 0)
set_option maxRecDepth 100000 in
set_option maxHeartbeats 4000000 in
theorem svTakeS (l : Bs) (hg : s.Good) (hp : s.phase ≤ 3) (E : Env w0) (A : SvAt w0 L p s K w) : Calls Tryz.prog 39 #[.pointer (some ⟨p, 0, none⟩), .string ⟨(lnTold l).1.toArray⟩, .int .i64 (lnTold l).2] w fun e w2 => e = .returned (.tuple #[]) ∧ ∃ K2, (∀ x ∈ K, x ∈ K2) ∧ SvAt w0 L p (s.take l) K2 w2 := by
  have HV : Hid (s.take l = if s.phase = 1 then (if 1000 < l.length then { s with t := { s.t with long := true } } else s.line l) else if 510 < l.length then s.say 500 else s.command l) := rfl
  obtain ⟨X, hX, c0, f0, l0⟩ := A.cell
  have hpi : (s.phase : Int) ≤ 3 := by omega
  unfold svCells at c0
  by_cases h1 : s.phase = 1
  · have hpp : ((s.phase : Int) == 1) = true := by rw [h1]; rfl
    rw [h1] at c0
    by_cases h2 : 1000 < l.length
    · have HT : Hid (lnTold l = ([], 5)) := if_pos h2
      have HW : Hid (s.take l = { s with t := { s.t with long := true } }) := by unfold Hid; rw [HV.out, if_pos h1, if_pos h2]
      have HA1 := Lib.hid A.long
      rw [HT.out]
      clear A hX hg HV h1 h2
      go_enter Tryz.func39, Tryz.ntmps39
      go_wp2
      go_end0
      exact ⟨rfl, K, fun _ h => h, by rw [HW.out]; exact HA1.out⟩
    · have HT : Hid (lnTold l = (l, 0)) := if_neg h2
      have HW : Hid (s.take l = s.line l) := by unfold Hid; rw [HV.out, if_pos h1, if_neg h2]
      have HL := Lib.hid (svLineS l (by omega) hg A)
      rw [HT.out]
      clear A hX hg HV h1 h2
      go_enter Tryz.func39, Tryz.ntmps39
      go_wp2_with fail
      refine HL.out.mono ?_
      rintro e w3 ⟨rfl, H3⟩
      have HH := Lib.hid H3
      clear H3
      go_wp2
      go_end0
      exact ⟨rfl, by rw [HW.out]; exact HH.out⟩
  · have hpp : ((s.phase : Int) == 1) = false := by simp; omega
    have HSAY := Lib.hid (svSayS 500 hg.fit hg.queue hg.errs A)
    by_cases h2 : 510 < l.length
    · have HW : Hid (s.take l = s.say 500) := by unfold Hid; rw [HV.out, if_neg h1, if_pos h2]
      by_cases h3 : 1000 < l.length
      · have HT : Hid (lnTold l = ([], 5)) := if_pos h3
        rw [HT.out]
        clear A hX hg HV h1 h2 h3
        go_enter Tryz.func39, Tryz.ntmps39
        go_wp2_with fail
        refine HSAY.out.mono ?_
        rintro e w3 ⟨rfl, H3⟩
        have HH := Lib.hid H3
        clear H3
        go_wp2
        go_end0
        exact ⟨rfl, by rw [HW.out]; exact HH.out⟩
      · have HT : Hid (lnTold l = (l, 0)) := if_neg h3
        have h2' : (510 : Int) < l.length := by omega
        have h3' : (l.length : Int) ≤ 1000 := by omega
        rw [HT.out]
        clear A hX hg HV h1 h2 h3
        go_enter Tryz.func39, Tryz.ntmps39
        go_wp2_with fail
        refine HSAY.out.mono ?_
        rintro e w3 ⟨rfl, H3⟩
        have HH := Lib.hid H3
        clear H3
        go_wp2
        go_end0
        exact ⟨rfl, by rw [HW.out]; exact HH.out⟩
    · have HT : Hid (lnTold l = (l, 0)) := if_neg (by omega)
      have HW : Hid (s.take l = s.command l) := by unfold Hid; rw [HV.out, if_neg h1, if_neg h2]
      have HC := Lib.hid (svCommandS l (by omega) hg E A)
      have h2' : (l.length : Int) ≤ 510 := by omega
      rw [HT.out]
      clear A hX hg HV h1 h2 HSAY
      go_enter Tryz.func39, Tryz.ntmps39
      go_wp2_with fail
      refine HC.out.mono ?_
      rintro e w3 ⟨rfl, H3⟩
      have HH := Lib.hid H3
      clear H3
      go_wp2
      go_end0
      exact ⟨rfl, by rw [HW.out]; exact HH.out⟩
set_option maxRecDepth 100000 in
set_option maxHeartbeats 4000000 in
theorem svVerdictS (v : Int) (hv : -9223372036854775808 ≤ v ∧ v ≤ 9223372036854775807) (hg : s.Good) (hp : s.phase ≤ 3) (A : SvAt w0 L p s K w) : Calls Tryz.prog 14 #[.pointer (some ⟨p, 0, none⟩), .int .i64 v] w fun e w2 => e = .returned (.tuple #[]) ∧ ∃ K2, (∀ x ∈ K, x ∈ K2) ∧ SvAt w0 L p (s.verdict v) K2 w2 := by
  have HV : Hid (s.verdict v = if s.phase = 2 then ({ s.forget with phase := 0 } : Sv).say (verdictCode v) else s) := rfl
  obtain ⟨X, hX, c0, f0, l0⟩ := A.cell
  have hpi : (s.phase : Int) ≤ 3 := by omega
  have HA0 := Lib.hid A
  unfold svCells at c0
  by_cases h1 : s.phase = 2
  · rw [h1] at c0
    have hf0 : ({ s.forget with phase := 0 } : Sv).Fit := ⟨hg.fit.host, hg.fit.most, hg.fit.queue, hg.fit.errs, hg.fit.rules, hg.fit.each, hg.fit.boxes⟩
    have HSAY := Lib.hid (fun (c : Int) (W : World) (A' : SvAt w0 L p ({ s.forget with phase := 0 } : Sv) K W) => svSayS c hf0 hg.queue hg.errs A')
    have HW : Hid (s.verdict v = ({ s.forget with phase := 0 } : Sv).say (verdictCode v)) := by unfold Hid; rw [HV.out, if_pos h1]
    clear A hX hg HV hf0 h1 hpi
    go_enter Tryz.func14, Tryz.ntmps14
    go_wp2_with fail
    refine (svForgetS HA0.out).mono ?_
    rintro e w3 ⟨rfl, A3⟩
    obtain ⟨X3, hX3, c3, f3, l3⟩ := A3.cell
    have HA4 : Hid (SvAt w0 L p ({ s.forget with phase := 0 } : Sv) K (w3.setCell ⟨p, 5, none⟩ (.int .i64 0))) := A3.phase 0
    clear A3 hX3 c0 f0 l0
    have HVC : Hid (∀ z : Int, z = verdictCode v → (∃ K2, (∀ x ∈ K, x ∈ K2) ∧ SvAt w0 L p (({ s.forget with phase := 0 } : Sv).say z) K2 w) → True) := fun _ _ _ => trivial
    by_cases e0 : v = 0
    · have HC : Hid (verdictCode v = 250) := if_pos e0
      subst e0
      go_wp2_with fail
      refine (HSAY.out 250 _ HA4.out).mono ?_
      rintro e w4 ⟨rfl, H4⟩
      have HH := Lib.hid H4
      clear H4
      go_wp2
      go_end0
      exact ⟨rfl, by rw [HW.out, HC.out]; exact HH.out⟩
    · by_cases e1 : v = 1 ∨ v = 2 ∨ v = 5
      · have HC : Hid (verdictCode v = 554) := by unfold Hid verdictCode; rw [if_neg e0, if_pos e1]
        rcases e1 with rfl | rfl | rfl
        all_goals
          go_wp2_with fail
          refine (HSAY.out 554 _ HA4.out).mono ?_
          rintro e w4 ⟨rfl, H4⟩
          have HH := Lib.hid H4
          clear H4
          go_wp2
          go_end0
          exact ⟨rfl, by rw [HW.out, HC.out]; exact HH.out⟩
      · have HC : Hid (verdictCode v = 452) := by unfold Hid verdictCode; rw [if_neg e0, if_neg e1]
        have q0 : (v == 0) = false := by simpa using e0
        have q1 : (v == 1) = false := by simp; exact fun h => e1 (.inl h)
        have q2 : (v == 2) = false := by simp; exact fun h => e1 (.inr (.inl h))
        have q5 : (v == 5) = false := by simp; exact fun h => e1 (.inr (.inr h))
        clear e0 e1 hv
        go_wp2_with fail
        refine (HSAY.out 452 _ HA4.out).mono ?_
        rintro e w4 ⟨rfl, H4⟩
        have HH := Lib.hid H4
        clear H4
        go_wp2
        go_end0
        exact ⟨rfl, by rw [HW.out, HC.out]; exact HH.out⟩
  · have HW : Hid (s.verdict v = s) := by unfold Hid; rw [HV.out, if_neg h1]
    have h1' : ((s.phase : Int) == 2) = false := by simp; omega
    have h1'' : ((s.phase : Int) != 2) = true := by simp; omega
    clear A hX hg HV h1
    go_enter Tryz.func14, Tryz.ntmps14
    go_wp2
    refine bodyPost_ret (results_none rfl _ _ _) rfl ?_
    exact ⟨rfl, K, fun _ h => h, by rw [HW.out]; exact HA0.out⟩
set_option maxRecDepth 100000 in
set_option maxHeartbeats 4000000 in
theorem svAddS (b : Bs) (hb : s.came.length + b.length ≤ 1000000000) (hp : s.phase ≤ 3) (A : SvAt w0 L p s K w) : Calls Tryz.prog 15 #[.pointer (some ⟨p, 0, none⟩), .string ⟨b.toArray⟩] w fun e w2 => e = .returned (.tuple #[]) ∧ SvAt w0 L p (s.add b) K w2 := by
  have hpi : (s.phase : Int) ≤ 3 := by omega
  have HA0 := Lib.hid A
  obtain ⟨X, hX, S⟩ := A
  have HX := Lib.hid hX
  have HS := Lib.hid ((Sp.pick [_, _, _, _, _, _] [1, 0, 2, 3, 4, 5] (by decide) (S)))
  have c0 := S.cell
  unfold svCells at c0
  by_cases h1 : s.phase = 3
  · have HW : Hid (s.add b = s) := if_pos h1
    rw [h1] at c0
    clear hX S
    go_enter Tryz.func15, Tryz.ntmps15
    go_wp2
    go_end0
    exact ⟨rfl, by rw [HW.out]; exact HA0.out⟩
  · have HW : Hid (s.add b = { s with came := s.came ++ b }) := if_neg h1
    have h1' : ((s.phase : Int) != 3) = true := by simp; omega
    clear hX S h1
    go_enter Tryz.func15, Tryz.ntmps15
    go_wp2_with fail
    refine (lrdAddS b hb HS.out).mono ?_
    rintro e w3 ⟨rfl, S3⟩
    have HS3 := Lib.hid S3
    clear S3 HS
    go_wp2
    go_end0
    exact ⟨rfl, by rw [HW.out]; exact ⟨X, ⟨HX.out.rules, HX.out.boxes, HX.out.queue, HX.out.evs⟩, (Sp.pick [_, _, _, _, _, _] [1, 0, 2, 3, 4, 5] (by decide) (HS3.out))⟩⟩
set_option maxRecDepth 100000 in
theorem svPhaseS (A : SvAt w0 L p s K w) : Calls Tryz.prog 13 #[.pointer (some ⟨p, 0, none⟩)] w fun e w2 => e = .returned (.int .i64 s.phase) ∧ w = w2 := by
  obtain ⟨X, hX, c0, f0, l0⟩ := A.cell
  clear A hX
  go_enter Tryz.func13, Tryz.ntmps13
  go_wp2
  go_ret
  exact ⟨rfl, rfl⟩
set_option maxRecDepth 100000 in
theorem svOpenS (A : SvAt w0 L p s K w) : Calls Tryz.prog 33 #[.pointer (some ⟨p, 0, none⟩)] w fun e w2 => e = .returned (.bool s.t.opened) ∧ w = w2 := by
  obtain ⟨X, hX, c0, f0, l0⟩ := A.cell
  clear A hX
  go_enter Tryz.func33, Tryz.ntmps33
  go_wp2
  go_ret
  exact ⟨rfl, rfl⟩
end
end Go.Proofs.YtapenolbbofjkaaGreatDoor
