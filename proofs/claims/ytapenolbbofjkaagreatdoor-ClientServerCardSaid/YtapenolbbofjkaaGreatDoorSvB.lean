/- slices.Index, slices.Contains of mailboxes. Conditions: the lengths fit. server: from. Conditions: the lengths fit. -/
import Derived.Test.YtapenolbbofjkaaGreatDoorSvM
import Derived.Test.YtapenolbbofjkaaGreatDoorReg
import Derived.Test.YtapenolbbofjkaaGreatDoorCmW
/-! SvB -/
set_option linter.unusedSimpArgs false
set_option linter.unusedVariables false
set_option linter.unnecessarySimpa false
namespace Go.Proofs.YtapenolbbofjkaaGreatDoor
open Go.RowKit Go.Maps

/-- A slice value that holds mailboxes, wherever it lies. -/
def BxsAt (w : World) (v : Value) (l : List Mb) : Prop := ∃ a cap, v = .slice a l.length cap ∧ RowsAt w a 2 (l.map mbVals)
section
variable {w0 w w2 : World} {L : List Res} {v : Value} {F0 : List Nat}
theorem BxsAt.ext {l : List Mb} (h : BxsAt w v l) (hx : Ext [] w w2) : BxsAt w2 v l := by
  obtain ⟨a, cap, h1, h2⟩ := h
  exact ⟨a, cap, h1, h2.ext hx⟩
theorem BxsAt.form {l : List Mb} (h : BxsAt w v l) : ∃ a cap, v = .slice a l.length cap := by
  obtain ⟨a, cap, h1, _⟩ := h
  exact ⟨a, cap, h1⟩
theorem BxsAt.at {a : Option Addr} {n cap : Nat} {l : List Mb} (h : BxsAt w (.slice a n cap) l) {i : Nat} (hi : i < l.length) : ∃ b off, a = some ⟨b, off, none⟩ ∧ w.cell? ⟨b, off + i * 2, none⟩ = some (.string ⟨l[i].1.toArray⟩) ∧ w.cell? ⟨b, off + i * 2 + 1, none⟩ = some (.string ⟨l[i].2.toArray⟩) := by
  obtain ⟨a2, cap2, h1, h2⟩ := h
  cases h1
  obtain ⟨b, off, rfl⟩ := h2.addr (i := i) (by simpa using hi)
  have hr : (l.map mbVals)[i]? = some (mbVals l[i]) := by rw [List.getElem?_map, List.getElem?_eq_getElem hi]; rfl
  exact ⟨b, off, rfl, h2.at i _ hr 0 _ rfl, h2.at i _ hr 1 _ rfl⟩
theorem Sp.bxs {l : List Mb} (S : Sp w0 F0 w (mbxR v l :: L)) : BxsAt w v l := by
  rcases S.rowForm with ⟨rfl, h⟩ | ⟨g, cap, rfl⟩
  · have : l = [] := List.eq_nil_of_length_eq_zero h
    subst this
    exact ⟨none, 0, rfl, .inl rfl⟩
  · refine ⟨_, cap, rfl, .inr ⟨g, 0, rfl, fun i r hr j u hu => ?_⟩⟩
    have hl : ∀ x ∈ l.map mbVals, x.length = 2 := fun x hx => by
      obtain ⟨r, _, rfl⟩ := List.mem_map.1 hx
      rfl
    rw [Nat.zero_add]
    exact S.rowCell hl hr hu
theorem Sp.romBxs {K : List Rom} {l : List Mb} (S : Sp w0 F0 w (romR K :: L)) (h : (⟨v, 2, l.map mbVals⟩ : Rom) ∈ K) : BxsAt w v l := by
  obtain ⟨F, a, cap, h1, _, _, h4⟩ := S.rom h
  refine ⟨a, cap, by simpa using h1, ?_⟩
  rcases h4 with h4 | ⟨b, off, h5, _, _, h6⟩
  · exact .inl h4
  · exact .inr ⟨b, off, h5, fun i r hr j u hu => h6 i r j u hr hu⟩
theorem Sp.romRls {K : List Rom} {l : List Rl} (S : Sp w0 F0 w (romR K :: L)) (h : (⟨v, 3, l.map Rl.vals⟩ : Rom) ∈ K) : RlsAt w v l := by
  obtain ⟨F, a, cap, h1, _, _, h4⟩ := S.rom h
  refine ⟨a, cap, by simpa using h1, ?_⟩
  rcases h4 with h4 | ⟨b, off, h5, _, _, h6⟩
  · exact .inl (by simpa using h4)
  · exact .inr ⟨b, off, h5, fun i r j u hi hj => h6 i _ j u (by rw [List.getElem?_map, hi]; rfl) hj⟩
set_option maxRecDepth 100000 in
set_option maxHeartbeats 4000000 in
theorem boxIdx_any (l : List Mb) (m : Mb) (w : World) (hn : l.length ≤ 1000000) (T : BxsAt w v l) : Calls Tryz.prog 139 #[v, .agg #[.string ⟨m.1.toArray⟩, .string ⟨m.2.toArray⟩]] w fun e w2 => (∃ z : Int, e = .returned (.int .i64 z) ∧ (0 ≤ z ↔ m ∈ l)) ∧ Ext [] w w2 := by
  obtain ⟨ml, md⟩ := m
  have HS0 := Lib.hid ((Sp.nil w []).box #[.string ⟨ml.toArray⟩, .string ⟨md.toArray⟩] 37)
  have HT := Lib.hid T
  obtain ⟨va, vc, rfl⟩ := T.form
  have hnl : (l.length : Int) ≤ 1000000 := by omega
  dsimp only at *
  clear T hn
  go_enter Tryz.func139, Tryz.ntmps139
  go_upto_region 1 with (fail)
  generalize w.alloc _ = w1 at *
  generalize w.heap.size = q at *
  go_wp2_with fail
  go_loopw [8] (fun at0 wr => ∃ k : Nat, at0 = .int .i64 k ∧ k ≤ l.length ∧ (ml, md) ∉ l.take k ∧ Sp w [] wr (boxR q #[.string ⟨ml.toArray⟩, .string ⟨md.toArray⟩] 37 :: [])) (fun at0 _ => l.length - (intOf at0).toNat)
  case atStart => exact ⟨0, rfl, Nat.zero_le _, by simp, HS0.out⟩
  case round =>
    obtain ⟨k, rfl, hk, hnot, S1⟩ := hrel
    have HN := Lib.hid hnot
    have HS1 := Lib.hid S1
    have c1 := S1.cell
    clear hnot S1 HS0
    have hk' : (k : Int) ≤ l.length := by omega
    by_cases hlt : k < l.length
    · have hlt' : (k : Int) < l.length := by omega
      obtain ⟨xb, xo, hva, x0, x1⟩ := (HT.out.ext HS1.out.ext).at hlt
      subst hva
      have HTK : Hid (l.take (k + 1) = l.take k ++ [l[k]]) := take_snoc l k hlt
      have HMEM := Lib.hid (List.getElem_mem hlt)
      generalize l[k] = x at *
      obtain ⟨xl, xd⟩ := x
      dsimp only at *
      have HD := Lib.hid (HS1.out.drew)
      go_upto_region 4 with (fail)
      by_cases he : ml = xl ∧ md = xd
      · obtain ⟨rfl, rfl⟩ := he
        go_region
        all_goals
          go_wp2
          go_ret
          exact ⟨⟨_, rfl, by constructor; (intro _; exact HMEM.out); (intro _; omega)⟩, by first | exact HS1.out.ext | exact HD.out.ext⟩
      · have HN2 : Hid ((ml, md) ∉ l.take (k + 1)) := by
          unfold Hid
          rw [HTK.out, List.mem_append]
          rintro (h | h)
          · exact HN.out h
          · simp only [List.mem_singleton, Prod.mk.injEq] at h
            exact he h
        by_cases h1 : ml = xl
        · subst h1
          have h2 : md ≠ xd := fun h => he ⟨rfl, h⟩
          have h2' : (md == xd) = false := by simpa using h2
          clear he
          go_region
          all_goals
            go_wp2_with fail
            go_roundw
            case rel => exact ⟨k + 1, by go_num, by omega, HN2.out, by first | exact HS1.out | exact HD.out⟩
            case measure => simp [intOf]; omega
        · have h1' : (ml == xl) = false := by simpa using h1
          clear he
          go_region
          all_goals
            go_wp2_with fail
            go_roundw
            case rel => exact ⟨k + 1, by go_num, by omega, HN2.out, by first | exact HS1.out | exact HD.out⟩
            case measure => simp [intOf]; omega
    · obtain rfl : k = l.length := by omega
      have HZ : Hid ((ml, md) ∉ l) := by
        have := HN.out
        rw [List.take_length] at this
        exact this
      go_wp2
      go_ret
      exact ⟨⟨-1, rfl, by constructor; (intro h; omega); (intro h; exact absurd h HZ.out)⟩, HS1.out.ext⟩
set_option maxRecDepth 100000 in
set_option maxHeartbeats 1000000 in
theorem boxHas_any (l : List Mb) (m : Mb) (w : World) (hn : l.length ≤ 1000000) (T : BxsAt w v l) : Calls Tryz.prog 120 #[v, .agg #[.string ⟨m.1.toArray⟩, .string ⟨m.2.toArray⟩]] w fun e w2 => e = .returned (.bool (decide (m ∈ l))) ∧ Ext [] w w2 := by
  obtain ⟨ml, md⟩ := m
  have HS0 := Lib.hid ((Sp.nil w []).box #[.string ⟨ml.toArray⟩, .string ⟨md.toArray⟩] 37)
  have HI := Lib.hid (fun (w' : World) (hx : Ext [] w w') => boxIdx_any l (ml, md) w' hn (T.ext hx))
  dsimp only at *
  clear T hn
  go_enter Tryz.func120, Tryz.ntmps120
  go_upto_region 1 with (fail)
  generalize w.alloc _ = w1 at *
  generalize w.heap.size = q at *
  have c0 := HS0.out.cell
  go_wp2_with fail
  refine (HI.out w1 HS0.out.ext).mono ?_
  rintro e w2 ⟨⟨z, rfl, hz⟩, hx⟩
  have HX := Lib.hid (HS0.out.ext0 hx).ext
  have HZ := Lib.hid hz
  clear hx hz
  go_wp2
  go_ret
  refine ⟨ret_bool ?_, HX.out⟩
  rw [Bool.eq_iff_iff]
  simp [HZ.out]
end
end Go.Proofs.YtapenolbbofjkaaGreatDoor

/-! SvF -/
namespace Go.Proofs.YtapenolbbofjkaaGreatDoor
open Go.RowKit Go.Maps

section
variable {w0 w : World} {L : List Res} {p : Nat} {s : Sv} {K : List Rom} {v : Value}
set_option maxRecDepth 100000 in
set_option maxHeartbeats 4000000 in
theorem svFromS (c : Cm) (hf : s.Fit) (A : SvAt w0 L p s K w) : Calls Tryz.prog 94 #[.pointer (some ⟨p, 0, none⟩), cmAgg c] w fun e w2 => e = .returned (.int .i64 (s.from c).1) ∧ SvAt w0 L p (s.from c).2 K w2 := by
  have HV : Hid (s.from c = if s.greet = [] ∨ s.t.opened = true then (503, s) else if (s.c.most : Int) < c.size then (552, s) else (250, { s with t := ⟨true, c.box, [], [], 0, false⟩ })) := rfl
  obtain ⟨vb, tx, ⟨bl, bd⟩, sz, e8⟩ := c
  obtain ⟨X, hX, S⟩ := A
  have S1 := S.box #[.int .i64 vb, .string ⟨tx.toArray⟩, .string ⟨bl.toArray⟩, .string ⟨bd.toArray⟩, .int .i64 sz, .bool e8] 131
  have HX := Lib.hid hX
  have HS1 := Lib.hid S1
  unfold cmAgg
  dsimp only at *
  clear S hX S1
  go_enter Tryz.func94, Tryz.ntmps94
  go_upto_region 1 with (fail)
  generalize w.alloc _ = w1 at *
  generalize w.heap.size = q at *
  have cq := HS1.out.cell
  have c0 := HS1.out.pull1.cell
  have f0 := HS1.out.pull1.free
  unfold svCells at c0
  have HA0 : Hid (SvAt w0 L p s K w1) := ⟨X, HX.out, HS1.out.drop⟩
  by_cases h1 : s.greet = []
  · have HW : Hid (s.from ⟨vb, tx, (bl, bd), sz, e8⟩ = (503, s)) := by unfold Hid; rw [HV.out, if_pos (.inl h1)]
    have h1' : (s.greet == []) = true := by simp [h1]
    have h1'' : s.greet.toArray = #[] := by rw [h1]
    clear HV HX HS1
    go_wp2
    go_ret
    rw [HW.out]
    exact ⟨rfl, HA0.out⟩
  have h1' : (s.greet == []) = false := by simpa using h1
  cases ho : s.t.opened with
  | true =>
    have HW : Hid (s.from ⟨vb, tx, (bl, bd), sz, e8⟩ = (503, s)) := by unfold Hid; rw [HV.out, if_pos (.inr ho)]
    rw [ho] at c0
    clear HV HX HS1 h1
    go_wp2
    go_ret
    rw [HW.out]
    exact ⟨rfl, HA0.out⟩
  | false =>
    have HV2 : Hid (s.from ⟨vb, tx, (bl, bd), sz, e8⟩ = if (s.c.most : Int) < sz then (552, s) else (250, { s with t := ⟨true, (bl, bd), [], [], 0, false⟩ })) := by
      unfold Hid
      rw [HV.out, if_neg (by rintro (h | h); exact h1 h; rw [ho] at h; cases h)]
    rw [ho] at c0
    have hc0 := c0 1
    have hc4 := cq 4
    clear HV h1
    go_wp2_with fail
    clear hc0 hc4
    have hms : (s.c.most : Int) ≤ 15000 := by have := hf.most; omega
    by_cases h2 : (s.c.most : Int) < sz
    · have HW : Hid (s.from ⟨vb, tx, (bl, bd), sz, e8⟩ = (552, s)) := by unfold Hid; rw [HV2.out, if_pos h2]
      have h2' : decide ((s.c.most : Int) < sz) = true := decide_eq_true h2
      clear HV2
      go_upto_region 3 with (fail)
      refine wp_region_text (S := fun wx => Sp w0 [] wx (boxR q #[.int .i64 vb, .string ⟨tx.toArray⟩, .string ⟨bl.toArray⟩, .string ⟨bd.toArray⟩, .int .i64 sz, .bool e8] 131 :: boxR p (svCells s X) 79 :: lrdR X.rb s.came :: mbxR X.vt s.t.rcs :: textsR X.vl s.t.lines :: queR X.vq X.qs :: romR K :: L) ∧ (∀ o, wx.cell? ⟨q, o, none⟩ = (#[.int .i64 vb, .string ⟨tx.toArray⟩, .string ⟨bl.toArray⟩, .string ⟨bd.toArray⟩, .int .i64 sz, .bool e8])[o]?) ∧ (∀ o, wx.cell? ⟨p, o, none⟩ = (svCells s X)[o]?)) (by kernel_rfl) (by kernel_rfl) ⟨(HS1.out).drew, (Sp.pick [_, _] [0] (by decide) ((HS1.out).drew)).cell, (Sp.pick [_, _] [1] (by decide) ((HS1.out).drew)).cell⟩ ?_
      repeat
        refine Exists.intro ?_ (And.intro (fun wS hS K hK => ?_) (And.intro ?_ ?_))
        rotate_left 1
        · obtain ⟨hS1, hS2, hS3⟩ := hS
          first
            | (refine if_unwanted rfl ?_; simp only [Act.put, List.setIfInBounds_toArray, List.set_cons_zero, List.set_cons_succ]; exact hK.out _ ⟨hS1, hS2, hS3⟩)
            | (refine if_wanted rfl ?_; go_simp; exact hK.out _ ⟨hS1, hS2, hS3⟩)
        · rfl
      intro wE hE
      have HSE := Lib.hid hE.1
      clear hE
      go_wp2
      go_ret
      rw [HW.out]
      exact ⟨rfl, X, HX.out, HSE.out.drop⟩
    · have HW : Hid (s.from ⟨vb, tx, (bl, bd), sz, e8⟩ = (250, { s with t := ⟨true, (bl, bd), [], [], 0, false⟩ })) := by unfold Hid; rw [HV2.out, if_neg h2]
      have h2' : decide ((s.c.most : Int) < sz) = false := decide_eq_false h2
      clear HV2
      go_upto_region 3 with (fail)
      refine wp_region_text (S := fun wx => Sp w0 [] wx (boxR q #[.int .i64 vb, .string ⟨tx.toArray⟩, .string ⟨bl.toArray⟩, .string ⟨bd.toArray⟩, .int .i64 sz, .bool e8] 131 :: boxR p (svCells s X) 79 :: lrdR X.rb s.came :: mbxR X.vt s.t.rcs :: textsR X.vl s.t.lines :: queR X.vq X.qs :: romR K :: L) ∧ (∀ o, wx.cell? ⟨q, o, none⟩ = (#[.int .i64 vb, .string ⟨tx.toArray⟩, .string ⟨bl.toArray⟩, .string ⟨bd.toArray⟩, .int .i64 sz, .bool e8])[o]?) ∧ (∀ o, wx.cell? ⟨p, o, none⟩ = (svCells s X)[o]?)) (by kernel_rfl) (by kernel_rfl) ⟨(HS1.out).drew, (Sp.pick [_, _] [0] (by decide) ((HS1.out).drew)).cell, (Sp.pick [_, _] [1] (by decide) ((HS1.out).drew)).cell⟩ ?_
      repeat
        refine Exists.intro ?_ (And.intro (fun wS hS K hK => ?_) (And.intro ?_ ?_))
        rotate_left 1
        · obtain ⟨hS1, hS2, hS3⟩ := hS
          first
            | (refine if_unwanted rfl ?_; simp only [Act.put, List.setIfInBounds_toArray, List.set_cons_zero, List.set_cons_succ]; exact hK.out _ ⟨hS1, hS2, hS3⟩)
            | (refine if_wanted rfl ?_; go_simp; exact hK.out _ ⟨hS1, hS2, hS3⟩)
        · rfl
      intro wE hE
      have HSE := Lib.hid hE.1
      clear hE
      have AE : SvAt w0 L p s K wE := ⟨X, HX.out, HSE.out.drop⟩
      have HA1 := Lib.hid (AE.tr true (bl, bd))
      have dq := HSE.out.cell
      have d0 := HSE.out.pull1.cell
      have e0 := HSE.out.pull1.free
      unfold svCells at d0
      clear AE cq c0 f0 HX HA0 HS1
      go_wp2
      go_ret
      rw [HW.out]
      exact ⟨rfl, HA1.out⟩
end
end Go.Proofs.YtapenolbbofjkaaGreatDoor
