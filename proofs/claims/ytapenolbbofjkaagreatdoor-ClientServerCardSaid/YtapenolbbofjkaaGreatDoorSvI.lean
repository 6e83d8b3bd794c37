/- server: greet, finish. Conditions: the lengths fit; what Go's variables hold. server: finish. Conditions: the lengths fit; what Go's variables hold. -/
import Derived.Test.YtapenolbbofjkaaGreatDoorSvG
import Derived.StillTailTactics
/-! SvI -/
set_option linter.unusedSimpArgs false
set_option linter.unusedVariables false
set_option linter.unnecessarySimpa false
namespace Go.Proofs.YtapenolbbofjkaaGreatDoor
open Go.RowKit Go.Maps

theorem op_append_run {P : Program} {w w1 : World} {o : Oper} {a : Act} {K : Act → World → Prop} {Q : Exit → Act → World → Prop} {s x : Operand} {t : TypeId} {v u r : Value}
    (ho : o.op = .call { callee := .builtin .append, args := #[s, x], argTypes := #[t, t] }) (hs : a.eval s = v) (hx : a.eval x = u)
    (hr : (Builtin.append_ #[t, t] o.type #[v, u]).run P w = .ok r w1) (h : K (a.put o.dst r) w1) : Oper.wp P o a w K Q := by
  unfold Oper.wp execOp
  simp only [ho, resolve, invoke, builtin, Sem.run_bind, Sem.run_pure, Result.andThen_ok, List.map_toArray, List.map_cons, List.map_nil, hs, hx, hr]
  exact h
section
variable {w0 w w2 : World} {L : List Res} {p : Nat} {s : Sv} {K : List Rom} {v : Value} {r : Res}
theorem SvAt.ext0 (A : SvAt w0 L p s K w) (hx : Ext [] w w2) : SvAt w0 L p s K w2 := by
  obtain ⟨X, hX, S⟩ := A
  exact ⟨X, hX, S.ext0 hx⟩
theorem SvAt.drew (A : SvAt w0 L p s K w) : SvAt w0 L p s K w.drew := by
  obtain ⟨X, hX, S⟩ := A
  exact ⟨X, hX, S.drew⟩
theorem SvAt.drop (A : SvAt w0 (r :: L) p s K w) : SvAt w0 L p s K w := by
  obtain ⟨X, hX, S⟩ := A
  exact ⟨X, hX, (Sp.pick [_, _, _, _, _, _, _] [0, 1, 2, 3, 4, 5] (by decide) (S))⟩
theorem SvAt.box (A : SvAt w0 L p s K w) (c : Array Value) (T : TypeId) : SvAt w0 (boxR w.heap.size c T :: L) p s K (w.alloc (.cells c T)) := by
  obtain ⟨X, hX, S⟩ := A
  exact ⟨X, hX, (Sp.pick [_, _, _, _, _, _, _] [1, 2, 3, 4, 5, 6, 0] (by decide) (S.box c T))⟩
theorem SvAt.boxCell {b : Nat} {c : Array Value} {T : TypeId} (A : SvAt w0 (boxR b c T :: L) p s K w) : (∀ o, w.cell? ⟨b, o, none⟩ = c[o]?) ∧ (∀ o, w.frozen? ⟨b, o, none⟩ = false) ∧ b < w.heap.size := by
  obtain ⟨X, hX, S⟩ := A
  have S2 := (Sp.pick [_, _, _, _, _, _, _] [6, 0, 1, 2, 3, 4, 5] (by decide) (S))
  exact ⟨S2.cell, S2.free, S2.boxlt⟩
theorem SvAt.sp (A : SvAt w0 L p s K w) : Sp w0 [] w L := by
  obtain ⟨X, hX, S⟩ := A
  exact S.drop.drop.drop.drop.drop.drop
theorem SvAt.host (A : SvAt w0 L p s K w) : w.cell? ⟨p, 0, none⟩ = some (.string ⟨s.c.host.toArray⟩) ∧ w.cell? ⟨p, 1, none⟩ = some (.int .i64 s.c.most) := by
  obtain ⟨X, hX, S⟩ := A
  exact ⟨S.cell 0, S.cell 1⟩
theorem svItoaS (hf : s.Fit) (E : Env w0) (A : SvAt w0 L p s K w) : Calls Tryz.prog 52 #[.int .i64 s.c.most] w fun e w2 => e = .returned (.string ⟨(Lib.decDigits s.c.most).toArray⟩) ∧ SvAt w0 L p s K w2 := by
  obtain ⟨X, hX, S⟩ := A
  have := hf.most
  refine (itoaS (s.c.most : Int) (by omega) (by omega) S E).mono ?_
  rintro e w2 ⟨rfl, S2⟩
  exact ⟨rfl, X, hX, S2⟩
theorem dec_short (n : Nat) (h : n ≤ 15000) : (Lib.decDigits n).length ≤ 100 := by
  have h1 : (Lib.decDigits n).length ≤ 12 := by rw [Lib.decDigits_length]; exact nDig_le (by decide) (by omega)
  omega
set_option maxRecDepth 100000 in
set_option maxHeartbeats 4000000 in
theorem svGreetS (c : Cm) (hf : s.Fit) (hq : s.queue.length ≤ 10000) (E : Env w0) (A : SvAt w0 L p s K w) : Calls Tryz.prog 93 #[.pointer (some ⟨p, 0, none⟩), cmAgg c] w fun e w2 => e = .returned (.tuple #[]) ∧ ∃ K2, (∀ x ∈ K, x ∈ K2) ∧ SvAt w0 L p (s.meet c) K2 w2 := by
  obtain ⟨vb, tx, ⟨bl, bd⟩, sz, e8⟩ := c
  obtain ⟨t, ht⟩ : ∃ t : Sv, t = { s.forget with greet := tx } := ⟨_, rfl⟩
  have HV : Hid (s.meet ⟨vb, tx, (bl, bd), sz, e8⟩ = t.put (evSay 250 (if vb = 1 then [s.c.host] else [s.c.host, sizeT ++ Lib.decDigits s.c.most, eightT, pipeT]))) := by unfold Hid; rw [ht]; rfl
  have htf : t.Fit := by rw [ht]; exact ⟨hf.host, hf.most, by show s.queue.length ≤ 100000; omega, hf.errs, hf.rules, hf.each, hf.boxes⟩
  have HTF := Lib.hid htf
  have htc : t.c = s.c := by rw [ht]; rfl
  have HA := Lib.hid (A.box #[.int .i64 vb, .string ⟨tx.toArray⟩, .string ⟨bl.toArray⟩, .string ⟨bd.toArray⟩, .int .i64 sz, .bool e8] 131)
  have hadd := add_str sizeT (Lib.decDigits s.c.most) (by have := dec_short s.c.most hf.most; unfold maxLen sizeT; simp; omega)
  unfold sizeT at hadd
  unfold cmAgg
  dsimp only at *
  clear A hf hq htf
  go_enter Tryz.func93, Tryz.ntmps93
  go_upto_region 1 with (fail)
  generalize w.alloc _ = w1 at *
  generalize w.heap.size = q at *
  go_wp2_with fail
  refine (svForgetS HA.out).mono ?_
  rintro e w2 ⟨rfl, A2⟩
  obtain ⟨X2, hX2, c0, f0, l0⟩ := A2.cell
  obtain ⟨cq, fq, lq⟩ := A2.boxCell
  have HA3 : Hid (SvAt w0 (boxR q #[.int .i64 vb, .string ⟨tx.toArray⟩, .string ⟨bl.toArray⟩, .string ⟨bd.toArray⟩, .int .i64 sz, .bool e8] 131 :: L) p t K (w2.setCell ⟨p, 6, none⟩ (.string ⟨tx.toArray⟩))) := by
    unfold Hid
    rw [ht]
    obtain ⟨X, hX, S⟩ := A2
    exact ⟨X, ⟨hX.rules, hX.boxes, hX.queue, hX.evs⟩, S.set (o := 6) (.string ⟨tx.toArray⟩)⟩
  clear A2 hX2 HA ht
  go_upto_region 3 with (fail)
  clear c0 f0 l0 cq fq lq
  generalize w2.setCell ⟨p, 6, none⟩ (.string ⟨tx.toArray⟩) = w3 at *
  obtain ⟨X3, hX3, c3, f3, l3⟩ := HA3.out.cell
  obtain ⟨cq, fq, lq⟩ := HA3.out.boxCell
  unfold svCells at c3
  rw [htc] at c3
  clear hX3
  by_cases h1 : vb = 1
  · subst h1
    rw [if_pos rfl] at HV
    have HA4 := Lib.hid (HA3.out.texts [s.c.host] (by simp))
    clear hadd
    go_upto_region 4 with (fail)
    go_wp2_with fail
    refine (svLinesS 250 [s.c.host] _ 1 1 (by simp) HTF.out HA4.out).mono ?_
    rintro e w5 ⟨rfl, A5⟩
    have HA5 := Lib.hid A5.drop
    clear A5
    go_wp2
    refine bodyPost_ret (results_none rfl _ _ _) rfl ?_
    exact ⟨rfl, _, fun y hy => List.mem_cons_of_mem _ hy, by rw [HV.out]; exact HA5.out⟩
  · rw [if_neg h1] at HV
    have h1' : (vb == 1) = false := by simpa using h1
    go_upto_region 5 with (fail)
    clear c3 f3 l3 cq fq lq
    have HIT := Lib.hid (fun (W : World) (A' : SvAt w0 (boxR q #[.int .i64 vb, .string ⟨tx.toArray⟩, .string ⟨bl.toArray⟩, .string ⟨bd.toArray⟩, .int .i64 sz, .bool e8] 131 :: L) p t K W) => svItoaS HTF.out E A')
    have HHO := Lib.hid (fun (W : World) (K' : List Rom) (t' : Sv) (h : t'.c = s.c) (A' : SvAt w0 (boxR q #[.int .i64 vb, .string ⟨tx.toArray⟩, .string ⟨bl.toArray⟩, .string ⟨bd.toArray⟩, .int .i64 sz, .bool e8] 131 :: L) p t' K' W) => (show W.cell? ⟨p, 0, none⟩ = some (.string ⟨s.c.host.toArray⟩) ∧ W.cell? ⟨p, 1, none⟩ = some (.int .i64 s.c.most) from by rw [← h]; exact A'.host))
    have HTC := Lib.hid htc
    rw [htc] at HIT
    unfold eightT pipeT at HV
    generalize boxR q #[.int .i64 vb, .string ⟨tx.toArray⟩, .string ⟨bl.toArray⟩, .string ⟨bd.toArray⟩, .int .i64 sz, .bool e8] 131 = rq at *
    refine wp_region_chainG [0, 1, 2, 3, 4, 5, 6, 7, 8, 9, 10, 11, 12, 13, 14] (fun c => c == 11 || c == 13 || c == 14) (fun c => false) (T := fun wx => wx.cell? ⟨p, 0, none⟩ = some (.string ⟨s.c.host.toArray⟩) ∧ wx.cell? ⟨p, 1, none⟩ = some (.int .i64 s.c.most)) (S := fun wx => SvAt w0 (rq :: L) p t K wx) (by kernel_rfl) (by kernel_rfl) (by kernel_rfl) HA3.out.drew (fun x h => HHO.out x K t HTC.out h) ?_
    repeat
      refine Exists.intro _ (And.intro rfl (Or.inl (Exists.intro ?_ (And.intro (fun wS hS K hK => ?_) (And.intro ?_ ?_)))))
      rotate_left 1
      · obtain ⟨t0, t1⟩ := hS
        first
          | (refine if_unwanted rfl ?_; simp only [Act.put, List.setIfInBounds_toArray, List.set_cons_zero, List.set_cons_succ]; exact hK.out)
          | (refine if_wanted rfl ?_; go_simp; exact hK.out)
      · rfl
    refine ChainG.one rfl rfl rfl (fun wS hS R hR => ?_)
    go_simp
    go_at_call 52
    refine (HIT.out wS hS).mono ?_
    rintro e w7 ⟨rfl, S7⟩
    refine hR.out _ _ rfl (fun wx => wx.cell? ⟨p, 0, none⟩ = some (.string ⟨s.c.host.toArray⟩) ∧ wx.cell? ⟨p, 1, none⟩ = some (.int .i64 s.c.most)) (fun wx => SvAt w0 (rq :: L) p t K wx) S7 (fun x h => HHO.out x K t HTC.out h) (fun _ h => h) ?_
    clear hR hS S7
    repeat
      refine Exists.intro _ (And.intro rfl (Or.inl (Exists.intro ?_ (And.intro (fun wS hS K hK => ?_) (And.intro ?_ ?_)))))
      rotate_left 1
      · obtain ⟨t0, t1⟩ := hS
        first
          | (refine if_unwanted rfl ?_; simp only [Act.put, List.setIfInBounds_toArray, List.set_cons_zero, List.set_cons_succ]; exact hK.out)
          | (refine if_wanted rfl ?_; go_simp; exact hK.out)
      · rfl
    refine ChainG.one rfl rfl rfl (fun wS hS R hR => ?_)
    go_simp
    obtain ⟨b, hb⟩ : ∃ b, b = wS.heap.size := ⟨_, rfl⟩
    rw [← hb]
    refine hR.out _ _ rfl (fun wx => wx.cell? ⟨p, 0, none⟩ = some (.string ⟨s.c.host.toArray⟩) ∧ wx.cell? ⟨p, 1, none⟩ = some (.int .i64 s.c.most)) (fun wx => SvAt w0 (rq :: L) p t (⟨.slice (some ⟨b, 0, none⟩) 4 4, 1, txRows [s.c.host, sizeT ++ Lib.decDigits s.c.most, [56, 66, 73, 84, 77, 73, 77, 69], [80, 73, 80, 69, 76, 73, 78, 73, 78, 71]]⟩ :: K) wx) (by rw [hb]; exact SvAt.texts hS [s.c.host, sizeT ++ Lib.decDigits s.c.most, [56, 66, 73, 84, 77, 73, 77, 69], [80, 73, 80, 69, 76, 73, 78, 73, 78, 71]] (by simp)) (fun x h => HHO.out x _ t HTC.out h) (fun _ h => h) ?_
    clear hR
    repeat
      refine Exists.intro _ (And.intro rfl (Or.inl (Exists.intro ?_ (And.intro (fun wS hS K hK => ?_) (And.intro ?_ ?_)))))
      rotate_left 1
      · obtain ⟨t0, t1⟩ := hS
        first
          | (refine if_unwanted rfl ?_; simp only [Act.put, List.setIfInBounds_toArray, List.set_cons_zero, List.set_cons_succ]; exact hK.out)
          | (refine if_wanted rfl ?_; go_simp; exact hK.out)
      · rfl
    refine ChainG.one rfl rfl rfl (fun wS hS R hR => ?_)
    go_simp
    go_at_call 65
    refine (svLinesS 250 [s.c.host, sizeT ++ Lib.decDigits s.c.most, [56, 66, 73, 84, 77, 73, 77, 69], [80, 73, 80, 69, 76, 73, 78, 73, 78, 71]] _ 4 4 (by simp) HTF.out hS).mono ?_
    rintro e w7 ⟨rfl, S7⟩
    refine hR.out _ _ rfl (fun wx => wx.cell? ⟨p, 0, none⟩ = some (.string ⟨s.c.host.toArray⟩) ∧ wx.cell? ⟨p, 1, none⟩ = some (.int .i64 s.c.most)) (fun wx => SvAt w0 (rq :: L) p (t.put (evSay 250 [s.c.host, sizeT ++ Lib.decDigits s.c.most, [56, 66, 73, 84, 77, 73, 77, 69], [80, 73, 80, 69, 76, 73, 78, 73, 78, 71]])) (⟨.slice (some ⟨b, 0, none⟩) 4 4, 1, txRows [s.c.host, sizeT ++ Lib.decDigits s.c.most, [56, 66, 73, 84, 77, 73, 77, 69], [80, 73, 80, 69, 76, 73, 78, 73, 78, 71]]⟩ :: K) wx) S7 (fun x h => HHO.out x _ (t.put (evSay 250 [s.c.host, sizeT ++ Lib.decDigits s.c.most, [56, 66, 73, 84, 77, 73, 77, 69], [80, 73, 80, 69, 76, 73, 78, 73, 78, 71]])) HTC.out h) (fun _ h => h) ?_
    clear hR hS S7
    repeat
      refine Exists.intro _ (And.intro rfl (Or.inl (Exists.intro ?_ (And.intro (fun wS hS K hK => ?_) (And.intro ?_ ?_)))))
      rotate_left 1
      · obtain ⟨t0, t1⟩ := hS
        first
          | (refine if_unwanted rfl ?_; simp only [Act.put, List.setIfInBounds_toArray, List.set_cons_zero, List.set_cons_succ]; exact hK.out)
          | (refine if_wanted rfl ?_; go_simp; exact hK.out)
      · rfl
    intro wE hE
    have HSE := Lib.hid hE
    clear hE
    go_wp2
    go_end0
    exact ⟨rfl, _, fun y hy => List.mem_cons_of_mem _ hy, by rw [HV.out]; exact SvAt.drop HSE.out⟩
end
end Go.Proofs.YtapenolbbofjkaaGreatDoor

/-! SvJ -/
namespace Go.Proofs.YtapenolbbofjkaaGreatDoor
open Go.RowKit Go.Maps

theorem wpList_make_run {P : Program} {w w1 : World} {ops : Array Oper} {rest : List Oper} {o : Oper} {a : Act} {Q : Exit → Act → World → Prop} (hg : o.guard = none) (l c : Operand) (t : TypeId) (hop : o.op = Op.makeSlice t l c)
    (vl vc v : Value) (hl : a.eval l = vl) (hc : a.eval c = vc) (hr : (Instr.makeSlice t vl vc).run P w = .ok v w1) (hK : wpList P ops Q rest (a.put o.dst v) w1) : wpList P ops Q (o :: rest) a w := by
  refine wpList_plain hg fun K hK' => ?_
  unfold Oper.wp
  simp [execOp, hop, hl, hc, hr, Result.andThen]
  exact hK' _ _ hK
/-- What a session's sizes are, while it goes on. -/
structure Sv.Good (s : Sv) : Prop where
  fit : s.Fit
  queue : s.queue.length ≤ 10000
  errs : s.errs ≤ 10000
  rcs : s.t.rcs.length ≤ 10
  size : s.t.size ≤ 15001
  lines : (lnJoin s.t.lines).length ≤ s.t.size
theorem join_parts : ∀ (l : List Bs) (n : Nat), (lnJoin l).length ≤ n → l.length ≤ n ∧ ∀ x ∈ l, x.length ≤ n
  | [], n, _ => ⟨Nat.zero_le _, by simp⟩
  | x :: l, n, h => by
    have e : (lnJoin (x :: l)).length = x.length + 2 + (lnJoin l).length := by simp [lnJoin]; omega
    obtain ⟨h1, h2⟩ := join_parts l (n - x.length - 2) (by omega)
    refine ⟨by simp only [List.length_cons]; omega, fun y hy => ?_⟩
    rcases List.mem_cons.1 hy with rfl | hy
    · omega
    · have := h2 y hy
      omega
section
variable {w0 w w2 : World} {L : List Res} {p : Nat} {s : Sv} {K : List Rom} {v : Value} {r : Res}
theorem SvAt.phase (A : SvAt w0 L p s K w) (n : Nat) : SvAt w0 L p { s with phase := n } K (w.setCell ⟨p, 5, none⟩ (.int .i64 n)) := by
  obtain ⟨X, hX, S⟩ := A
  exact ⟨X, ⟨hX.rules, hX.boxes, hX.queue, hX.evs⟩, S.set (o := 5) (.int .i64 n)⟩
theorem infoMake (w : World) (n : Nat) (hn : n ≤ 1000000) : (Instr.makeSlice 29 (.int .i64 (n : Int)) (.int .i64 (n : Int))).run Tryz.prog w = .ok (.slice (some ⟨w.heap.size, 0, none⟩) n n) (w.alloc (.cells (madeCells #[.string ⟨#[]⟩, .string ⟨#[]⟩] (n * 2)) 37)) := by
  obtain ⟨i0, hi0, hz0, hz1, hz2⟩ := info_parts infoBox21
  have hr := run_make (P := Tryz.prog) w 29 37 i0 _ Tryz.underlying29 hi0 hz0 .i64 .i64 n n (by omega) (Int.le_refl _) (by rw [hz2]; omega) (by omega)
  rw [hz1] at hr
  simp only [Int.toNat_natCast] at hr
  exact hr
/-- The recipients copied, to be read only from now on. -/
theorem SvAt.copied (A : SvAt w0 L p s K w) (hr : s.t.rcs.length ≤ 1000) : ∃ va vc, (∃ X : SvV, X.vt = .slice va s.t.rcs.length vc ∧ ∀ o, w.cell? ⟨p, o, none⟩ = (svCells s X)[o]?) ∧ p < w.heap.size ∧
    ∃ w2, (Builtin.copy_ #[29, 29] 3 #[.slice (some ⟨w.heap.size, 0, none⟩) s.t.rcs.length s.t.rcs.length, .slice va s.t.rcs.length vc]).run Tryz.prog (w.alloc (.cells (madeCells #[.string ⟨#[]⟩, .string ⟨#[]⟩] (s.t.rcs.length * 2)) 37)) = .ok (.int .i64 s.t.rcs.length) w2 ∧
      SvAt w0 L p s (⟨.slice (some ⟨w.heap.size, 0, none⟩) s.t.rcs.length s.t.rcs.length, 2, s.t.rcs.map mbVals⟩ :: K) w2 := by
  obtain ⟨⟨vr, vb, vt, vl, vq, rb, qs⟩, hX, S⟩ := A
  obtain ⟨va, vc, rfl⟩ := ((Sp.pick [_, _, _] [2] (by decide) (S))).mbForm
  obtain ⟨w2, h1, S2⟩ := Sp.mbCopy 3 (by omega) ((Sp.pick [_, _, _, _, _, _] [2, 0, 1, 3, 4, 5] (by decide) (S)))
  refine ⟨va, vc, ⟨_, rfl, S.cell⟩, S.boxlt, w2, h1, _, hX.more fun x hx => by simp [hx], ?_⟩
  have hl2 : ∀ x ∈ s.t.rcs.map mbVals, x.length = 2 := fun x hx => by
    obtain ⟨r, _, rfl⟩ := List.mem_map.1 hx
    rfl
  have S3 := (Sp.pick [_, _, _, _, _, _, _] [0, 6, 1, 2, 3, 4, 5] (by decide) (S2))
  have e : (s.t.rcs.map mbVals).length = s.t.rcs.length := List.length_map _
  unfold mbxR at S3
  rw [← e] at S3
  have S4 := S3.romMore hl2
  rw [e] at S4
  exact (Sp.pick [_, _, _, _, _, _] [2, 3, 1, 4, 5, 0] (by decide) (S4))
theorem svForgetA (A : SvAt w0 L p s K w) : Calls Tryz.prog 40 #[.pointer (some ⟨p, 0, none⟩)] w fun e w2 => e = .returned (.tuple #[]) ∧ SvAt w0 L p s.forget K w2 := svForgetS A
set_option maxRecDepth 100000 in
set_option maxHeartbeats 8000000 in
theorem svFinishS (hg : s.Good) (A : SvAt w0 L p s K w) : Calls Tryz.prog 91 #[.pointer (some ⟨p, 0, none⟩)] w fun e w2 => e = .returned (.tuple #[]) ∧ ∃ K2, (∀ x ∈ K, x ∈ K2) ∧ SvAt w0 L p s.ended K2 w2 := by
  have HV : Hid (s.ended = if s.t.long = true then ({ s.forget with phase := 0 } : Sv).say 500 else if s.c.most < s.t.size then ({ s.forget with phase := 0 } : Sv).say 552 else ({ s with phase := 2 } : Sv).put ⟨1, 0, [], s.greet, s.t.frm, s.t.rcs, lnJoin s.t.lines⟩) := rfl
  have HG := Lib.hid hg
  have hf0 : ({ s.forget with phase := 0 } : Sv).Fit := ⟨hg.fit.host, hg.fit.most, hg.fit.queue, hg.fit.errs, hg.fit.rules, hg.fit.each, hg.fit.boxes⟩
  have HSAY := Lib.hid (fun (c : Int) (W : World) (A' : SvAt w0 L p ({ s.forget with phase := 0 } : Sv) K W) => svSayS c hf0 hg.queue hg.errs A')
  have HA1 := Lib.hid (A.phase 0)
  obtain ⟨X, hX, c0, f0, l0⟩ := A.cell
  clear A hX hg hf0
  go_enter Tryz.func91, Tryz.ntmps91
  go_upto_region 5 with (fail)
  clear c0 f0 l0
  generalize w.setCell _ _ = w1 at *
  obtain ⟨X1, hX1, c1, f1, l1⟩ := HA1.out.cell
  have hs1 : (s.t.size : Int) ≤ 15001 := by have := HG.out.size; omega
  have hm1 : (s.c.most : Int) ≤ 15000 := by have := HG.out.fit.most; omega
  unfold svCells at c1
  dsimp only at c1
  clear hX1
  cases hl : s.t.long with
  | true =>
    have HW : Hid (s.ended = ({ s.forget with phase := 0 } : Sv).say 500) := by unfold Hid; rw [HV.out, if_pos hl]
    rw [hl] at c1
    go_wp2_with fail
    refine (svForgetS HA1.out).mono ?_
    rintro e w3 ⟨rfl, A3⟩
    have HA3 : Hid (SvAt w0 L p ({ s.forget with phase := 0 } : Sv) K w3) := A3
    clear A3 c1 f1 l1
    go_wp2_with fail
    refine (HSAY.out 500 _ HA3.out).mono ?_
    rintro e w4 ⟨rfl, K4, hk, A4⟩
    have HA4 := Lib.hid A4
    have HK := Lib.hid hk
    clear A4 hk
    go_wp2
    go_end0
    exact ⟨rfl, K4, HK.out, by rw [HW.out]; exact HA4.out⟩
  | false =>
    have HV2 : Hid (s.ended = if s.c.most < s.t.size then ({ s.forget with phase := 0 } : Sv).say 552 else ({ s with phase := 2 } : Sv).put ⟨1, 0, [], s.greet, s.t.frm, s.t.rcs, lnJoin s.t.lines⟩) := by unfold Hid; rw [HV.out, if_neg (by rw [hl]; decide)]
    rw [hl] at c1
    clear HV
    by_cases h2 : s.c.most < s.t.size
    · have HW : Hid (s.ended = ({ s.forget with phase := 0 } : Sv).say 552) := by unfold Hid; rw [HV2.out, if_pos h2]
      have h2' : (s.c.most : Int) < s.t.size := by omega
      clear h2
      go_upto_region 8 with (fail)
      go_still_tail 11, (by kernel_rfl)
      go_wp2_with fail
      refine (svForgetS HA1.out.drew).mono ?_
      rintro e w3 ⟨rfl, A3⟩
      have HA3 : Hid (SvAt w0 L p ({ s.forget with phase := 0 } : Sv) K w3) := A3
      clear A3 c1 f1 l1
      go_wp2_with fail
      refine (HSAY.out 552 _ HA3.out).mono ?_
      rintro e w4 ⟨rfl, K4, hk, A4⟩
      have HA4 := Lib.hid A4
      have HK := Lib.hid hk
      clear A4 hk
      go_wp2
      go_end0
      exact ⟨rfl, K4, HK.out, by rw [HW.out]; exact HA4.out⟩
    · have HW : Hid (s.ended = ({ s with phase := 2 } : Sv).put ⟨1, 0, [], s.greet, s.t.frm, s.t.rcs, lnJoin s.t.lines⟩) := by unfold Hid; rw [HV2.out, if_neg h2]
      have h2' : ¬ (s.c.most : Int) < s.t.size := by omega
      have h2'' : (s.t.size : Int) ≤ s.c.most := by omega
      clear h2 HSAY
      go_upto_region 8 with (fail)
      go_still_tail 11, (by kernel_rfl)
      have HA2 : Hid (SvAt w0 L p ({ s with phase := 2 } : Sv) K (w1.setCell ⟨p, 5, none⟩ (.int .i64 2)).drew) := (HA1.out.phase 2).drew
      have HFIT : Hid (({ s with phase := 2 } : Sv).Fit) := ⟨HG.out.fit.host, HG.out.fit.most, HG.out.fit.queue, HG.out.fit.errs, HG.out.fit.rules, HG.out.fit.each, HG.out.fit.boxes⟩
      go_upto_region 2 with (fail)
      clear c1 f1 l1 h2' h2'' hs1 hm1
      generalize (w1.setCell ⟨p, 5, none⟩ (.int .i64 2)).drew = w2 at *
      obtain ⟨va, vc, ⟨X2, hvt, c2⟩, l2, w3, hcp, A3⟩ := HA2.out.copied (by have := HG.out.rcs; show s.t.rcs.length ≤ 1000; omega)
      have HA3 := Lib.hid A3
      have HMK := Lib.hid (infoMake w2 s.t.rcs.length (by have := HG.out.rcs; omega))
      have hrl : (s.t.rcs.length : Int) ≤ 10 := by have := HG.out.rcs; omega
      unfold svCells at c2
      rw [hvt] at c2
      dsimp only at c2 hcp
      clear A3 HA1 hvt
      go_upto_region 4 with (first | (at_make; refine wpList_make_run rfl _ _ _ rfl _ _ _ rfl rfl HMK.out ?_))
      clear c2 l2 hcp HMK
      generalize hb : w2.heap.size = b at *
      obtain ⟨⟨vr, vb, vt, vl, vq, rb, qs⟩, hX3, S3⟩ := HA3.out
      have HX3 := Lib.hid hX3
      have c3 := S3.cell
      have l3 := S3.boxlt
      have HS3 := Lib.hid S3
      have HJN := Lib.hid (fun (W : World) (S : Sp w0 [] W (svL p ({ s with phase := 2 } : Sv) ⟨vr, vb, vt, vl, vq, rb, qs⟩ (⟨.slice (some ⟨b, 0, none⟩) s.t.rcs.length s.t.rcs.length, 2, s.t.rcs.map mbVals⟩ :: K) L)) => lnJoinT s.t.lines (by have := (join_parts _ _ HG.out.lines).1; have := HG.out.size; omega) (fun x hx => by have := (join_parts _ _ HG.out.lines).2 x hx; have := HG.out.size; omega) (((Sp.pick [_, _, _, _, _, _] [3] (by decide) (S))).tx) S)
      have HIN : Hid (QEv.in (⟨.slice (some ⟨b, 0, none⟩) s.t.rcs.length s.t.rcs.length, 2, s.t.rcs.map mbVals⟩ :: K) (⟨1, 0, [], s.greet, s.t.frm, s.t.rcs, lnJoin s.t.lines⟩, .slice none 0 0, .slice (some ⟨b, 0, none⟩) s.t.rcs.length s.t.rcs.length)) := ⟨.inl ⟨rfl, rfl⟩, .inr (by simp)⟩
      unfold svCells at c3
      dsimp only at c3
      generalize lnJoin s.t.lines = body at *
      clear S3 hX3 HA2
      clear c3 l3
      have HPE := Lib.hid (fun (W : World) (S : Sp w0 [] W (svL p ({ s with phase := 2 } : Sv) ⟨vr, vb, vt, vl, vq, rb, qs⟩ (⟨.slice (some ⟨b, 0, none⟩) s.t.rcs.length s.t.rcs.length, 2, s.t.rcs.map mbVals⟩ :: K) L)) => S.putEv HX3.out HFIT.out 33 _ HIN.out rfl rfl)
      generalize hK2 : ((⟨.slice (some ⟨b, 0, none⟩) s.t.rcs.length s.t.rcs.length, 2, s.t.rcs.map mbVals⟩ : Rom) :: K) = K2 at *
      refine wp_region_chainG [0, 1, 2, 3, 4, 5, 6, 7, 8, 9, 10, 11, 12, 13, 14, 15, 16, 17, 18, 19, 20, 21, 22, 23, 24, 25, 26] (fun c => c == 20 || c == 22 || c == 23 || c == 26) (fun c => c == 23 || c == 26) (T := fun wx => wx.cell? ⟨p, 15, none⟩ = some vq ∧ wx.cell? ⟨p, 6, none⟩ = some (.string ⟨s.greet.toArray⟩) ∧ wx.cell? ⟨p, 8, none⟩ = some (.string ⟨s.t.frm.1.toArray⟩) ∧ wx.cell? ⟨p, 9, none⟩ = some (.string ⟨s.t.frm.2.toArray⟩) ∧ wx.cell? ⟨p, 11, none⟩ = some vl) (S := fun wx => Sp w0 [] wx (svL p ({ s with phase := 2 } : Sv) ⟨vr, vb, vt, vl, vq, rb, qs⟩ K2 L)) (by kernel_rfl) (by kernel_rfl) (by kernel_rfl) HS3.out.drew (fun x h => ⟨h.cell 15, h.cell 6, h.cell 8, h.cell 9, h.cell 11⟩) ?_
      repeat
        refine Exists.intro _ (And.intro rfl (Or.inl (Exists.intro ?_ (And.intro (fun wS hS K hK => ?_) (And.intro ?_ ?_)))))
        rotate_left 1
        · obtain ⟨t0, t1, t2, t3, t4⟩ := hS
          first
            | (refine if_unwanted rfl ?_; simp only [Act.put, List.setIfInBounds_toArray, List.set_cons_zero, List.set_cons_succ]; exact hK.out)
            | (refine if_wanted rfl ?_; go_simp; exact hK.out)
        · rfl
      refine ChainG.one rfl rfl rfl (fun wS hS R hR => ?_)
      go_simp
      go_at_call 114
      refine (HJN.out wS hS).mono ?_
      rintro e w7 ⟨rfl, S7⟩
      refine hR.out _ _ rfl (fun wx => wx.cell? ⟨p, 15, none⟩ = some vq ∧ wx.cell? ⟨p, 6, none⟩ = some (.string ⟨s.greet.toArray⟩) ∧ wx.cell? ⟨p, 8, none⟩ = some (.string ⟨s.t.frm.1.toArray⟩) ∧ wx.cell? ⟨p, 9, none⟩ = some (.string ⟨s.t.frm.2.toArray⟩) ∧ wx.cell? ⟨p, 11, none⟩ = some vl) (fun wx => Sp w0 [] wx (svL p ({ s with phase := 2 } : Sv) ⟨vr, vb, vt, vl, vq, rb, qs⟩ K2 L)) S7 (fun x h => ⟨h.cell 15, h.cell 6, h.cell 8, h.cell 9, h.cell 11⟩) (fun _ h => h) ?_
      clear hR hS S7
      repeat
        refine Exists.intro _ (And.intro rfl (Or.inl (Exists.intro ?_ (And.intro (fun wS hS K hK => ?_) (And.intro ?_ ?_)))))
        rotate_left 1
        · obtain ⟨t0, t1, t2, t3, t4⟩ := hS
          first
            | (refine if_unwanted rfl ?_; simp only [Act.put, List.setIfInBounds_toArray, List.set_cons_zero, List.set_cons_succ]; exact hK.out)
            | (refine if_wanted rfl ?_; go_simp; exact hK.out)
        · rfl
      refine ChainG.one rfl rfl rfl (fun wS hS R hR => ?_)
      go_simp
      obtain ⟨g2, off2, m2, cap2, w8, hrun, c8, f8, A8⟩ := HPE.out wS hS
      have HRUN := Lib.hid hrun
      have HA8 := Lib.hid A8
      have HSN := Lib.hid (hS.new (.cells (QEv.vals (⟨1, 0, [], s.greet, s.t.frm, s.t.rcs, body⟩, .slice none 0 0, .slice (some ⟨b, 0, none⟩) s.t.rcs.length s.t.rcs.length)).toArray 39))
      obtain ⟨wa, hwa⟩ : ∃ wa, wa = wS.alloc (.cells (QEv.vals (⟨1, 0, [], s.greet, s.t.frm, s.t.rcs, body⟩, .slice none 0 0, .slice (some ⟨b, 0, none⟩) s.t.rcs.length s.t.rcs.length)).toArray 39) := ⟨_, rfl⟩
      have HC8 := Lib.hid c8
      have HF8 := Lib.hid f8
      rw [← hwa] at HRUN HSN
      obtain ⟨bb, hbb⟩ : ∃ bb, bb = wS.heap.size := ⟨_, rfl⟩
      rw [← hbb] at HRUN
      rw [← hbb]
      clear hrun A8 c8 f8
      refine hR.out _ _ rfl (fun wx => wx.cell? ⟨p, 15, none⟩ = some vq ∧ wx.cell? ⟨p, 6, none⟩ = some (.string ⟨s.greet.toArray⟩) ∧ wx.cell? ⟨p, 8, none⟩ = some (.string ⟨s.t.frm.1.toArray⟩) ∧ wx.cell? ⟨p, 9, none⟩ = some (.string ⟨s.t.frm.2.toArray⟩) ∧ wx.cell? ⟨p, 11, none⟩ = some vl) (fun wx => wx = wa) (by rw [hwa]; rfl) (by rintro x rfl; exact ⟨HSN.out.cell 15, HSN.out.cell 6, HSN.out.cell 8, HSN.out.cell 9, HSN.out.cell 11⟩) (fun _ h => h) ?_
      clear hR
      repeat
        refine Exists.intro _ (And.intro rfl (Or.inl (Exists.intro ?_ (And.intro (fun wS hS K hK => ?_) (And.intro ?_ ?_)))))
        rotate_left 1
        · obtain ⟨t0, t1, t2, t3, t4⟩ := hS
          first
            | (refine if_unwanted rfl ?_; simp only [Act.put, List.setIfInBounds_toArray, List.set_cons_zero, List.set_cons_succ]; exact hK.out)
            | (refine if_wanted rfl ?_; go_simp; exact hK.out)
        · rfl
      refine ChainG.two rfl rfl rfl rfl (fun wS hS R hR => ?_)
      subst hS
      refine oper_append_run (by rfl) (by rfl) (by rfl) HRUN.out ?_
      refine hR.out _ _ rfl (fun wx => wx.cell? ⟨p, 15, none⟩ = some vq ∧ wx.frozen? ⟨p, 15, none⟩ = false) (fun wx => wx = w8) rfl (by rintro x rfl; exact ⟨HC8.out 15, HF8.out 15⟩)  ?_
      clear hR
      repeat
        refine Exists.intro _ (And.intro rfl (Or.inl (Exists.intro ?_ (And.intro (fun wS hS K hK => ?_) (And.intro ?_ ?_)))))
        rotate_left 1
        · obtain ⟨t0, t1⟩ := hS
          first
            | (refine if_unwanted rfl ?_; simp only [Act.put, List.setIfInBounds_toArray, List.set_cons_zero, List.set_cons_succ]; exact hK.out)
            | (refine if_wanted rfl ?_; go_simp; exact hK.out)
        · rfl
      refine ChainG.two rfl rfl rfl rfl (fun wS hS R hR => ?_)
      subst hS
      have c15 := HC8.out 15
      have f15 := HF8.out 15
      go_simp
      refine hR.out _ _ rfl (fun wx => True) (fun wx => SvAt w0 L p (({ s with phase := 2 } : Sv).put ⟨1, 0, [], s.greet, s.t.frm, s.t.rcs, body⟩) K2 wx) HA8.out (fun _ _ => trivial)  ?_
      clear hR
      repeat
        refine Exists.intro _ (And.intro rfl (Or.inl (Exists.intro ?_ (And.intro (fun wS hS K hK => ?_) (And.intro ?_ ?_)))))
        rotate_left 1
        · have t0 := hS
          first
            | (refine if_unwanted rfl ?_; simp only [Act.put, List.setIfInBounds_toArray, List.set_cons_zero, List.set_cons_succ]; exact hK.out)
            | (refine if_wanted rfl ?_; go_simp; exact hK.out)
        · rfl
      intro wE hE
      have HSE := Lib.hid hE
      clear hE
      go_wp2
      go_end0
      exact ⟨rfl, K2, fun y hy => by rw [← hK2]; exact List.mem_cons_of_mem _ hy, by rw [HW.out]; exact HSE.out⟩
end
end Go.Proofs.YtapenolbbofjkaaGreatDoor
