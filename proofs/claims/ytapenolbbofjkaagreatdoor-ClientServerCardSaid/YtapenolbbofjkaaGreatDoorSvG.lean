/- server: taken. Conditions: the lengths fit; what Go's variables hold. server: to. Conditions: the lengths fit. server: greet, finish; copies of rows; what is joined of no lines. Conditions: the lengths fit; what Go's variables hold. -/
import Derived.Test.YtapenolbbofjkaaGreatDoorSvB
import Derived.Test.YtapenolbbofjkaaGreatDoorChainG
import Derived.Deep.DeepCutAuto
import Derived.Laws.IdiomCopy
import Derived.Laws.MakeOwn
import Derived.Lib.SlBuf
import Derived.Test.YtapenolbbofjkaaGreatDoorLnW
import Derived.Test.YtapenolbbofjkaaGreatDoorCmL
/-! SvK -/
set_option linter.unusedSimpArgs false
set_option linter.unusedVariables false
set_option linter.unnecessarySimpa false
namespace Go.Proofs.YtapenolbbofjkaaGreatDoor
open Go.RowKit Go.Maps

section
variable {w0 w : World} {L : List Res} {p : Nat} {s : Sv} {K : List Rom} {v : Value}
/-- A call that writes nothing old, in words of parts. -/
theorem Calls.sp2 {f : FuncId} {args : Array Value} {P : Ending → Prop} {F0 : List Nat} {M : List Res} (h : Calls Tryz.prog f args w fun e w2 => P e ∧ Ext [] w w2) (S : Sp w0 F0 w M) : Calls Tryz.prog f args w fun e w2 => P e ∧ Sp w0 F0 w2 M :=
  h.mono fun _ _ ⟨h1, h2⟩ => ⟨h1, S.ext0 h2⟩
set_option maxRecDepth 100000 in
set_option maxHeartbeats 4000000 in
theorem svTakenS (b : Mb) (hb : b.1.length ≤ 1000000 ∧ b.2.length ≤ 1000000) (hf : s.Fit) (E : Env w0) (A : SvAt w0 L p s K w) : Calls Tryz.prog 121 #[.pointer (some ⟨p, 0, none⟩), .agg #[.string ⟨b.1.toArray⟩, .string ⟨b.2.toArray⟩]] w fun e w2 => e = .returned (.bool (s.c.taken b)) ∧ SvAt w0 L p s K w2 := by
  obtain ⟨X, hX, S⟩ := A
  obtain ⟨bl, bd⟩ := b
  have HS0 := Lib.hid (S.box #[.string ⟨bl.toArray⟩, .string ⟨bd.toArray⟩] 37)
  have HX := Lib.hid hX
  have HRT := Lib.hid (fun (W : World) (M : List Res) (S' : Sp w0 [] W (M ++ svL p s X K L)) => Calls.sp2 (route_any (v := X.vr) s.c.rules bd hb.2 (by have := hf.rules; omega) hf.each (((Sp.pick [_, _, _, _, _, _] [5] (by decide) ((Sp.drops M S')))).romRls hX.rules) (E.sp S')) S')
  have HBX := Lib.hid (fun (W : World) (M : List Res) (S' : Sp w0 [] W (M ++ svL p s X K L)) => Calls.sp2 (boxHas_any (v := X.vb) s.c.boxes (bl, bd) W (by have := hf.boxes; omega) (((Sp.pick [_, _, _, _, _, _] [5] (by decide) ((Sp.drops M S')))).romBxs hX.boxes)) S')
  have HV : Hid (s.c.taken (bl, bd) = match route s.c.rules bd with | some r => r.2.1 == 2 || (r.2.1 == 1 && s.c.boxes.contains (bl, bd)) | none => false) := rfl
  clear S hX hf hb E
  go_enter Tryz.func121, Tryz.ntmps121
  go_upto_region 1 with (fail)
  generalize w.alloc _ = w1 at *
  generalize w.heap.size = q at *
  generalize route s.c.rules bd = ro at *
  have cq := HS0.out.cell
  have c0 := HS0.out.pull1.cell
  unfold svCells at c0
  have HD := Lib.hid HS0.out.drew
  have HS5 := Lib.hid (HS0.out.box #[.string ⟨#[]⟩, .int .i64 0, .int .i64 0] 65)
  have HRD := Lib.hid (HRT.out w1.drew [boxR q #[.string ⟨bl.toArray⟩, .string ⟨bd.toArray⟩] 37] HD.out)
  have HRE := Lib.hid (HRT.out _ [boxR w1.heap.size #[.string ⟨#[]⟩, .int .i64 0, .int .i64 0] 65, boxR q #[.string ⟨bl.toArray⟩, .string ⟨bd.toArray⟩] 37] HS5.out.drew)
  have c5q := HS5.out.pull1.cell
  have c5p := ((Sp.pick [_, _, _] [2] (by decide) (HS5.out))).cell
  unfold svCells at c5p
  have lq := HS0.out.boxlt


  obtain ⟨rr, hrr⟩ : ∃ rr, rr = ro.getD ([], 0, 0) := ⟨_, rfl⟩
  rw [← hrr] at HRD HRE
  have HTK : Hid (s.c.taken (bl, bd) = (rr.2.1 == 2 || (rr.2.1 == 1 && s.c.boxes.contains (bl, bd)))) := by
    unfold Hid
    rw [HV.out, hrr]
    cases ro with
    | some r => rfl
    | none => simp
  clear hrr HV HRT
  obtain ⟨rd, rk, rh⟩ := rr
  unfold rlAgg at HRD HRE
  dsimp only at *
  go_region_with (first | (go_at_call 29; refine HRE.out.mono ?_; rintro e w3 ⟨rfl, S⟩; have c5 := S.cell; have f5 := S.free; have l5 := S.boxlt) | (go_at_call 29; refine HRD.out.mono ?_; rintro e w3 ⟨rfl, S⟩))

  all_goals
    clear HRD HRE
    first
      | (have HS7 := Lib.hid (show Sp w0 [] _ (boxR w1.heap.size #[.string ⟨rd.toArray⟩, .int .i64 rk, .int .i64 rh] 65 :: boxR q #[.string ⟨bl.toArray⟩, .string ⟨bd.toArray⟩] 37 :: svL p s X K L) from (((S.set (o := 0) (.string ⟨rd.toArray⟩)).set (o := 1) (.int .i64 rk)).set (o := 2) (.int .i64 rh))); clear c5 f5 l5 S HS5 c5q c5p lq cq c0 HS0 HD; generalize ((w3.setCell ⟨w1.heap.size, 0, none⟩ (.string ⟨rd.toArray⟩)).setCell ⟨w1.heap.size, 1, none⟩ (.int .i64 rk)).setCell ⟨w1.heap.size, 2, none⟩ (.int .i64 rh) = w4 at *; generalize w1.heap.size = g at *)
      | (have HS7 := Lib.hid (show Sp w0 [] _ (boxR w3.heap.size #[.string ⟨rd.toArray⟩, .int .i64 rk, .int .i64 rh] 65 :: boxR q #[.string ⟨bl.toArray⟩, .string ⟨bd.toArray⟩] 37 :: svL p s X K L) from S.box #[.string ⟨rd.toArray⟩, .int .i64 rk, .int .i64 rh] 65); clear S HS5 c5q c5p lq cq c0 HS0 HD; generalize w3.alloc _ = w4 at *; generalize w3.heap.size = g at *)
    have e0 := HS7.out.cell
    have eq := HS7.out.pull1.cell
    have ep := ((Sp.pick [_, _, _] [2] (by decide) (HS7.out))).cell
    unfold svCells at ep
    by_cases h2 : rk = 2
    · have hd : decide (rk = 2) = true := by simp [h2]
      go_upto_region 2 with (fail)
      refine wp_region_text (S := fun wx => Sp w0 [] wx (boxR g #[.string ⟨rd.toArray⟩, .int .i64 rk, .int .i64 rh] 65 :: boxR q #[.string ⟨bl.toArray⟩, .string ⟨bd.toArray⟩] 37 :: boxR p (svCells s X) 79 :: lrdR X.rb s.came :: mbxR X.vt s.t.rcs :: textsR X.vl s.t.lines :: queR X.vq X.qs :: romR K :: L) ∧ (∀ o, wx.cell? ⟨g, o, none⟩ = (#[.string ⟨rd.toArray⟩, .int .i64 rk, .int .i64 rh])[o]?) ∧ (∀ o, wx.cell? ⟨q, o, none⟩ = (#[.string ⟨bl.toArray⟩, .string ⟨bd.toArray⟩])[o]?) ∧ (∀ o, wx.cell? ⟨p, o, none⟩ = (svCells s X)[o]?)) (by kernel_rfl) (by kernel_rfl) ⟨(HS7.out).drew, (Sp.pick [_, _, _] [0] (by decide) ((HS7.out).drew)).cell, (Sp.pick [_, _, _] [1] (by decide) ((HS7.out).drew)).cell, (Sp.pick [_, _, _] [2] (by decide) ((HS7.out).drew)).cell⟩ ?_
      repeat
        refine Exists.intro ?_ (And.intro (fun wS hS K hK => ?_) (And.intro ?_ ?_))
        rotate_left 1
        · obtain ⟨hS1, hS2, hS3, hS4⟩ := hS
          first
            | (refine if_unwanted rfl ?_; simp only [Act.put, List.setIfInBounds_toArray, List.set_cons_zero, List.set_cons_succ]; exact hK.out _ ⟨hS1, hS2, hS3, hS4⟩)
            | (refine if_wanted rfl ?_; go_simp; exact hK.out _ ⟨hS1, hS2, hS3, hS4⟩)
        · rfl
      intro wE hE
      have HSE := Lib.hid hE.1
      clear hE
      go_wp2
      go_ret
      rw [HTK.out]
      exact ⟨by simp [h2], X, HX.out, HSE.out.drop.drop⟩
    · have hd : decide (rk = 2) = false := by simp [h2]
      by_cases h1 : rk = 1
      · have hd1 : decide (rk = 1) = true := by simp [h1]
        go_upto_region 2 with (fail)
        refine wp_region_text (S := fun wx => Sp w0 [] wx (boxR g #[.string ⟨rd.toArray⟩, .int .i64 rk, .int .i64 rh] 65 :: boxR q #[.string ⟨bl.toArray⟩, .string ⟨bd.toArray⟩] 37 :: boxR p (svCells s X) 79 :: lrdR X.rb s.came :: mbxR X.vt s.t.rcs :: textsR X.vl s.t.lines :: queR X.vq X.qs :: romR K :: L) ∧ (∀ o, wx.cell? ⟨g, o, none⟩ = (#[.string ⟨rd.toArray⟩, .int .i64 rk, .int .i64 rh])[o]?) ∧ (∀ o, wx.cell? ⟨q, o, none⟩ = (#[.string ⟨bl.toArray⟩, .string ⟨bd.toArray⟩])[o]?) ∧ (∀ o, wx.cell? ⟨p, o, none⟩ = (svCells s X)[o]?)) (by kernel_rfl) (by kernel_rfl) ⟨(HS7.out).drew, (Sp.pick [_, _, _] [0] (by decide) ((HS7.out).drew)).cell, (Sp.pick [_, _, _] [1] (by decide) ((HS7.out).drew)).cell, (Sp.pick [_, _, _] [2] (by decide) ((HS7.out).drew)).cell⟩ ?_
        repeat
          refine Exists.intro ?_ (And.intro (fun wS hS K hK => ?_) (And.intro ?_ ?_))
          rotate_left 1
          · obtain ⟨hS1, hS2, hS3, hS4⟩ := hS
            first
              | (refine if_unwanted rfl ?_; simp only [Act.put, List.setIfInBounds_toArray, List.set_cons_zero, List.set_cons_succ]; exact hK.out _ ⟨hS1, hS2, hS3, hS4⟩)
              | (refine if_wanted rfl ?_; go_simp; exact hK.out _ ⟨hS1, hS2, hS3, hS4⟩)
              | (refine if_wanted rfl ?_; go_simp; go_at_call 120; refine (HBX.out _ [boxR g #[.string ⟨rd.toArray⟩, .int .i64 rk, .int .i64 rh] 65, boxR q #[.string ⟨bl.toArray⟩, .string ⟨bd.toArray⟩] 37] hS1).mono ?_; rintro e w12 ⟨rfl, S12⟩; exact hK.out _ ⟨S12, (Sp.pick [_, _, _] [0] (by decide) (S12)).cell, (Sp.pick [_, _, _] [1] (by decide) (S12)).cell, (Sp.pick [_, _, _] [2] (by decide) (S12)).cell⟩)
          · rfl
        intro wE hE
        have HSE := Lib.hid hE.1
        clear hE
        go_wp2
        go_ret
        rw [HTK.out]
        exact ⟨by simp [h1], X, HX.out, HSE.out.drop.drop⟩
      · have hd1 : decide (rk = 1) = false := by simp [h1]
        have hb2 : (rk == 2) = false := by simp [h2]
        have hb1 : (rk == 1) = false := by simp [h1]
        go_upto_region 2 with (fail)
        refine wp_region_text (S := fun wx => Sp w0 [] wx (boxR g #[.string ⟨rd.toArray⟩, .int .i64 rk, .int .i64 rh] 65 :: boxR q #[.string ⟨bl.toArray⟩, .string ⟨bd.toArray⟩] 37 :: boxR p (svCells s X) 79 :: lrdR X.rb s.came :: mbxR X.vt s.t.rcs :: textsR X.vl s.t.lines :: queR X.vq X.qs :: romR K :: L) ∧ (∀ o, wx.cell? ⟨g, o, none⟩ = (#[.string ⟨rd.toArray⟩, .int .i64 rk, .int .i64 rh])[o]?) ∧ (∀ o, wx.cell? ⟨q, o, none⟩ = (#[.string ⟨bl.toArray⟩, .string ⟨bd.toArray⟩])[o]?) ∧ (∀ o, wx.cell? ⟨p, o, none⟩ = (svCells s X)[o]?)) (by kernel_rfl) (by kernel_rfl) ⟨(HS7.out).drew, (Sp.pick [_, _, _] [0] (by decide) ((HS7.out).drew)).cell, (Sp.pick [_, _, _] [1] (by decide) ((HS7.out).drew)).cell, (Sp.pick [_, _, _] [2] (by decide) ((HS7.out).drew)).cell⟩ ?_
        repeat
          refine Exists.intro ?_ (And.intro (fun wS hS K hK => ?_) (And.intro ?_ ?_))
          rotate_left 1
          · obtain ⟨hS1, hS2, hS3, hS4⟩ := hS
            first
              | (refine if_unwanted rfl ?_; simp only [Act.put, List.setIfInBounds_toArray, List.set_cons_zero, List.set_cons_succ]; exact hK.out _ ⟨hS1, hS2, hS3, hS4⟩)
              | (refine if_wanted rfl ?_; go_simp; exact hK.out _ ⟨hS1, hS2, hS3, hS4⟩)
          · rfl
        intro wE hE
        have HSE := Lib.hid hE.1
        clear hE
        go_wp2
        go_ret
        rw [HTK.out]
        exact ⟨by simp [h1, h2], X, HX.out, HSE.out.drop.drop⟩
end
end Go.Proofs.YtapenolbbofjkaaGreatDoor

/-! SvG -/
namespace Go.Proofs.YtapenolbbofjkaaGreatDoor
open Go.RowKit Go.Maps

section
variable {w0 w : World} {L : List Res} {p : Nat} {s : Sv} {K : List Rom} {v : Value}
theorem infoBox21 : (Tryz.prog.info? 37).map (fun i => (i.zero, i.size, i.bytes)) = some (some (.agg #[.string ⟨#[]⟩, .string ⟨#[]⟩]), 2, 32) := by kernel_rfl
theorem Sp.appendMb {F0 : List Nat} {b : Nat} (ty : TypeId) {l : List Mb} (x : Mb) (hn : l.length < 10000000000) (S : Sp w0 F0 w (boxR b #[.string ⟨x.1.toArray⟩, .string ⟨x.2.toArray⟩] 37 :: mbxR v l :: L)) :
    ∃ g cap w2, (Builtin.append_ #[29, 29] ty #[v, .slice (some ⟨b, 0, none⟩) 1 1]).run Tryz.prog w = .ok (.slice (some ⟨g, 0, none⟩) (l.length + 1) cap) w2 ∧ Sp w0 F0 w2 (boxR b #[.string ⟨x.1.toArray⟩, .string ⟨x.2.toArray⟩] 37 :: mbxR (.slice (some ⟨g, 0, none⟩) (l.length + 1) cap) (l ++ [x]) :: L) := by
  obtain ⟨g, cap, w2, h1, S2⟩ := Sp.appendOne 29 ty #[.string ⟨x.1.toArray⟩, .string ⟨x.2.toArray⟩] _ 32 infoBox21 rfl Tryz.underlying29 (by decide) (by decide) rfl (by simp [Value.oneCell']) hn S
  refine ⟨g, cap, w2, h1, ?_⟩
  have e1 : ((l ++ [x]).map mbVals).flatten = (l.map mbVals).flatten ++ [.string ⟨x.1.toArray⟩, .string ⟨x.2.toArray⟩] := by simp [mbVals]
  have e2 : (l ++ [x]).length = l.length + 1 := by simp
  unfold mbxR
  rw [e1, e2]
  exact S2
theorem Sp.mbForm {F0 : List Nat} {l : List Mb} (S : Sp w0 F0 w (mbxR v l :: L)) : ∃ a c, v = .slice a l.length c := by
  rcases S.rowForm with ⟨h1, h2⟩ | ⟨g, cap, h1⟩
  · exact ⟨none, 0, by rw [h1, h2]⟩
  · exact ⟨_, cap, h1⟩
theorem SvAt.drop1 {r : Res} (A : SvAt w0 (r :: L) p s K w) : SvAt w0 L p s K w := by
  obtain ⟨X, hX, S⟩ := A
  exact ⟨X, hX, (Sp.pick [_, _, _, _, _, _, _] [0, 1, 2, 3, 4, 5] (by decide) (S))⟩
set_option maxRecDepth 100000 in
set_option maxHeartbeats 4000000 in
theorem svToS (c : Cm) (hc : c.box.1.length ≤ 1000000 ∧ c.box.2.length ≤ 1000000) (hf : s.Fit) (hr : s.t.rcs.length ≤ 10) (E : Env w0) (A : SvAt w0 L p s K w) : Calls Tryz.prog 95 #[.pointer (some ⟨p, 0, none⟩), cmAgg c] w fun e w2 => e = .returned (.int .i64 (s.rcpt c).1) ∧ SvAt w0 L p (s.rcpt c).2 K w2 := by
  have HV : Hid (s.rcpt c = if s.t.opened = false then (503, s) else if 10 ≤ s.t.rcs.length ∧ c.box ∉ s.t.rcs then (452, s) else if s.c.taken c.box = false then (550, s) else if c.box ∉ s.t.rcs then (250, { s with t := { s.t with rcs := s.t.rcs ++ [c.box] } }) else (250, s)) := rfl
  obtain ⟨vb, tx, ⟨bl, bd⟩, sz, e8⟩ := c
  have HTK := Lib.hid (fun (W : World) (L' : List Res) (A' : SvAt w0 L' p s K W) => svTakenS (L := L') (bl, bd) hc hf E A')
  obtain ⟨⟨vr, vb2, vt, vl, vq, rb, qs⟩, hX, S⟩ := A
  obtain ⟨va, vc, rfl⟩ := ((Sp.pick [_, _, _] [2] (by decide) (S))).mbForm
  have HS0 := Lib.hid (S.box #[.int .i64 vb, .string ⟨tx.toArray⟩, .string ⟨bl.toArray⟩, .string ⟨bd.toArray⟩, .int .i64 sz, .bool e8] 131)
  have HX := Lib.hid hX
  have HBX := Lib.hid (fun (W : World) (M : List Res) (S' : Sp w0 [] W (M ++ svL p s ⟨vr, vb2, .slice va s.t.rcs.length vc, vl, vq, rb, qs⟩ K L)) => Calls.sp2 (boxHas_any (v := .slice va s.t.rcs.length vc) s.t.rcs (bl, bd) W (by omega) (((Sp.pick [_, _, _, _, _, _] [2] (by decide) ((Sp.drops M S')))).bxs)) S')
  have HR := Lib.hid hr
  have hrb : (s.t.rcs.length : Int) ≤ 10 := by omega
  have HCT : Hid (∀ b, s.c.taken (bl, bd) = b → s.c.taken (bl, bd) = b) := fun _ h => h
  unfold cmAgg
  dsimp only at *
  clear S hX hf hr hc
  go_enter Tryz.func95, Tryz.ntmps95
  go_upto_region 1 with (fail)
  generalize w.alloc _ = w1 at *
  generalize w.heap.size = q at *
  have cq := HS0.out.cell
  have lq := HS0.out.boxlt
  have HS1 := Lib.hid (HS0.out.box #[.string ⟨bl.toArray⟩, .string ⟨bd.toArray⟩] 37)
  go_upto_region 2 with (fail)
  generalize w1.alloc _ = w2 at *
  generalize w1.heap.size = g at *
  clear cq lq HS0
  have cg := HS1.out.cell
  have c0 := ((Sp.pick [_, _, _] [2] (by decide) (HS1.out))).cell
  unfold svCells at c0
  obtain ⟨m, hm⟩ : ∃ m, m = decide ((bl, bd) ∈ s.t.rcs) := ⟨_, rfl⟩
  rw [← hm] at HBX
  have HM := Lib.hid hm
  clear hm
  refine wp_region_text (S := fun wx => Sp w0 [] wx (boxR g #[.string ⟨bl.toArray⟩, .string ⟨bd.toArray⟩] 37 :: boxR q #[.int .i64 vb, .string ⟨tx.toArray⟩, .string ⟨bl.toArray⟩, .string ⟨bd.toArray⟩, .int .i64 sz, .bool e8] 131 :: svL p s ⟨vr, vb2, .slice va s.t.rcs.length vc, vl, vq, rb, qs⟩ K L) ∧ (∀ o, wx.cell? ⟨g, o, none⟩ = (#[.string ⟨bl.toArray⟩, .string ⟨bd.toArray⟩])[o]?) ∧ (∀ o, wx.cell? ⟨p, o, none⟩ = (svCells s ⟨vr, vb2, .slice va s.t.rcs.length vc, vl, vq, rb, qs⟩)[o]?)) (by kernel_rfl) (by kernel_rfl) ⟨(HS1.out).drew, (Sp.pick [_, _, _] [0] (by decide) ((HS1.out).drew)).cell, (Sp.pick [_, _, _] [2] (by decide) ((HS1.out).drew)).cell⟩ ?_
  repeat
    refine Exists.intro ?_ (And.intro (fun wS hS K hK => ?_) (And.intro ?_ ?_))
    rotate_left 1
    · obtain ⟨hS1, hS2, hS3⟩ := hS
      first
        | (refine if_unwanted rfl ?_; simp only [Act.put, List.setIfInBounds_toArray, List.set_cons_zero, List.set_cons_succ]; exact hK.out _ ⟨hS1, hS2, hS3⟩)
        | (refine if_wanted rfl ?_; go_simp; exact hK.out _ ⟨hS1, hS2, hS3⟩)
        | (refine if_wanted rfl ?_; go_simp; go_at_call 120; refine (HBX.out _ [boxR g #[.string ⟨bl.toArray⟩, .string ⟨bd.toArray⟩] 37, boxR q #[.int .i64 vb, .string ⟨tx.toArray⟩, .string ⟨bl.toArray⟩, .string ⟨bd.toArray⟩, .int .i64 sz, .bool e8] 131] hS1).mono ?_; rintro e w12 ⟨rfl, S12⟩; exact hK.out _ ⟨S12, (Sp.pick [_, _, _] [0] (by decide) (S12)).cell, (Sp.pick [_, _, _] [2] (by decide) (S12)).cell⟩)
    · rfl
  intro wE hE
  have HSE := Lib.hid hE.1
  clear hE
  clear HBX HS1 cg c0
  have HAE : Hid (SvAt w0 (boxR g #[.string ⟨bl.toArray⟩, .string ⟨bd.toArray⟩] 37 :: L) p s K wE) := ⟨_, HX.out, (Sp.pick [_, _, _, _, _, _, _, _] [2, 3, 4, 5, 6, 7, 0] (by decide) (HSE.out))⟩
  have HA0 : Hid (SvAt w0 L p s K wE) := ⟨_, HX.out, HSE.out.drop.drop⟩
  have cg := HSE.out.cell
  have c0 := ((Sp.pick [_, _, _] [2] (by decide) (HSE.out))).cell
  unfold svCells at c0
  clear HSE HX
  cases ho : s.t.opened with
  | false =>
    have HW : Hid (s.rcpt ⟨vb, tx, (bl, bd), sz, e8⟩ = (503, s)) := by unfold Hid; rw [HV.out, if_pos ho]
    rw [ho] at c0
    clear HV HM
    go_wp2
    go_ret
    rw [HW.out]
    exact ⟨rfl, HA0.out⟩
  | true =>
    have HV2 : Hid (s.rcpt ⟨vb, tx, (bl, bd), sz, e8⟩ = if 10 ≤ s.t.rcs.length ∧ m = false then (452, s) else if s.c.taken (bl, bd) = false then (550, s) else if m = false then (250, { s with t := { s.t with rcs := s.t.rcs ++ [(bl, bd)] } }) else (250, s)) := by
      unfold Hid
      rw [HV.out, if_neg (by rw [ho]; decide), HM.out]
      simp only [decide_eq_false_iff_not]
    rw [ho] at c0
    clear HV HM
    by_cases h10 : 10 ≤ s.t.rcs.length ∧ m = false
    · have HW : Hid (s.rcpt ⟨vb, tx, (bl, bd), sz, e8⟩ = (452, s)) := by unfold Hid; rw [HV2.out, if_pos h10]
      obtain ⟨h10, rfl⟩ := h10
      have h10' : (10 : Int) ≤ s.t.rcs.length := by omega
      clear HV2
      go_wp2
      go_ret
      rw [HW.out]
      exact ⟨rfl, HA0.out⟩
    · rw [if_neg h10] at HV2
      have h10' : decide ((10 : Int) ≤ s.t.rcs.length) = false ∨ m = true := by
        cases m with
        | true => exact .inr rfl
        | false => left; simp only [decide_eq_false_iff_not]; intro h; exact h10 ⟨by omega, rfl⟩
      clear h10
      have HV3 : Hid (s.rcpt ⟨vb, tx, (bl, bd), sz, e8⟩ = if s.c.taken (bl, bd) = false then (550, s) else if m = false then (250, { s with t := { s.t with rcs := s.t.rcs ++ [(bl, bd)] } }) else (250, s)) := HV2
      clear HV2
      have HTE := Lib.hid (HTK.out wE _ HAE.out)
      have HLN : Hid (s.t.rcs.length ≤ 10) := HR.out
      obtain ⟨tk, htk⟩ : ∃ tk, tk = s.c.taken (bl, bd) := ⟨_, rfl⟩
      rw [← htk] at HTE HV3
      clear htk HTK HAE
      have hx : m = true ∨ m = false := by cases m <;> simp
      rcases hx with rfl | rfl
      · clear h10'
        go_wp2_with fail
        all_goals
          refine HTE.out.mono ?_
          rintro e w5 ⟨rfl, A5⟩
          have HA5 := Lib.hid A5.drop1
          clear A5 cg c0
          cases tk with
          | false =>
            have HW := Lib.hid (HV3.out.trans (if_pos rfl))
            go_wp2
            go_ret
            rw [HW.out]
            exact ⟨rfl, HA5.out⟩
          | true =>
            have HW := Lib.hid ((HV3.out.trans (if_neg (by decide))).trans (if_neg (by decide)))
            go_wp2
            go_ret
            rw [HW.out]
            exact ⟨rfl, HA5.out⟩
      · have HV4 : Hid (s.rcpt ⟨vb, tx, (bl, bd), sz, e8⟩ = if tk = false then (550, s) else (250, { s with t := { s.t with rcs := s.t.rcs ++ [(bl, bd)] } })) := by unfold Hid; rw [HV3.out, if_pos rfl]
        clear HV3
        have h10 : decide ((10 : Int) ≤ s.t.rcs.length) = false := by simpa using h10'
        have h10b : ¬ ((10 : Int) ≤ s.t.rcs.length) := by simpa using h10
        have h10c : (s.t.rcs.length : Int) < 10 := by omega
        clear h10'
        go_wp2_with fail
        refine HTE.out.mono ?_
        rintro e w5 ⟨rfl, A5⟩
        have HA5 := Lib.hid A5
        clear A5 cg c0
        cases tk with
        | false =>
          have HW := Lib.hid (HV4.out.trans (if_pos rfl))
          go_wp2
          go_ret
          rw [HW.out]
          exact ⟨rfl, HA5.out.drop1⟩
        | true =>
          have HW := Lib.hid (HV4.out.trans (if_neg (by decide)))
          clear HV4
          obtain ⟨⟨ur, ub, ut, ul, uq, ub5, us⟩, hX, S⟩ := HA5.out
          have HX := Lib.hid hX
          obtain ⟨ua, uc, rfl⟩ := ((Sp.pick [_, _, _] [2] (by decide) (S))).mbForm
          have S1 := (Sp.pick [_, _, _, _, _, _, _] [6, 2, 0, 1, 3, 4, 5] (by decide) (S))
          have lg := S1.boxlt
          have l0 := ((Sp.pick [_, _, _] [2] (by decide) (S1))).boxlt
          have cg := S1.cell
          have c0 := ((Sp.pick [_, _, _] [2] (by decide) (S1))).cell
          obtain ⟨g2, cap2, w6, hrun, S6⟩ := Sp.appendMb 29 (bl, bd) (by have := HLN.out; omega) ((Sp.pick [_, _, _] [0, 2, 1] (by decide) ((S1.box #[.string ⟨bl.toArray⟩, .string ⟨bd.toArray⟩] 37).drew)))
          have HRUN := Lib.hid hrun
          have HS6 := Lib.hid S6
          have c6 := ((Sp.pick [_, _, _, _] [3] (by decide) (S6))).cell
          have f6 := ((Sp.pick [_, _, _, _] [3] (by decide) (S6))).free
          unfold svCells at c0 c6
          dsimp only at HRUN c0 c6
          clear hX S S1 hrun S6
          go_upto_region 10 with (fail)
          go_region_law ((refine step_append_run (by rfl) (by rfl) (by rfl) (by rfl) HRUN.out ?_))
          all_goals
            clear c0 c6 f6 cg lg l0 HRUN
            go_wp2
            go_ret
            rw [HW.out]
            refine ⟨rfl, ⟨ur, ub, .slice (some ⟨g2, 0, none⟩) (s.t.rcs.length + 1) cap2, ul, uq, ub5, us⟩, ⟨HX.out.rules, HX.out.boxes, HX.out.queue, HX.out.evs⟩, ?_⟩
            have S7 := ((Sp.pick [_, _, _, _] [3, 0, 1, 2] (by decide) (HS6.out))).set (o := 10) (.slice (some ⟨g2, 0, none⟩) (s.t.rcs.length + 1) cap2)
            exact (Sp.pick [_, _, _, _, _, _, _, _] [0, 4, 2, 5, 6, 7] (by decide) (S7))
end
end Go.Proofs.YtapenolbbofjkaaGreatDoor

/-! SvH -/
namespace Go.Proofs.YtapenolbbofjkaaGreatDoor
open Go.RowKit Go.Maps

/-- All is read before anything is written: elements of k cells. -/
theorem run_copy_k (w : World) (dT sT ty elem k : TypeId) (b o dLen dCap : Nat) (a : Addr) (sLen sCap : Nat) (cs : List Value)
    (hu : Tryz.prog.underlying dT = some (.slice elem)) (hs : (Tryz.prog.info? elem).map (·.size) = some k) (hn : cs.length = Nat.min sLen dLen * k)
    (hsrc : ∀ j v, cs[j]? = some v → w.cell? (a.add j) = some v) (hc : ∀ j, j < cs.length → (w.cell? ⟨b, o + j, none⟩).isSome = true) (hf : ∀ j, j < cs.length → w.frozen? ⟨b, o + j, none⟩ = false) (h1 : ∀ v ∈ cs, v.oneCell' = true) :
    (Builtin.copy_ #[dT, sT] ty #[.slice (some ⟨b, o, none⟩) dLen dCap, .slice (some a) sLen sCap]).run Tryz.prog w = .ok (goInt (Nat.min sLen dLen)) (w.setCells b o cs) := by
  have hl := run_loadCells_list (P := Tryz.prog) w a cs hsrc
  have hst := run_storeCells_cells (P := Tryz.prog) b o cs 0 w (by simpa using hc) (by simpa using hf) h1
  cases hq : Tryz.prog.info? elem with
  | none => simp [hq] at hs
  | some i =>
    have hi : i.size = k := by simpa [hq] using hs
    simp [Builtin.copy_, run_underlying hu, Builtin.lenOf, Builtin.firstCells, sizeOf, typeInfo, hq, hi, ← hn, hl, hst]
theorem run_copy_none_k (w : World) (dT sT ty elem k : TypeId) (d : Addr) (dCap : Nat) (hu : Tryz.prog.underlying dT = some (.slice elem)) (hs : (Tryz.prog.info? elem).map (·.size) = some k) :
    (Builtin.copy_ #[dT, sT] ty #[.slice (some d) 0 dCap, .slice none 0 0]).run Tryz.prog w = .ok (goInt 0) w := by
  cases hq : Tryz.prog.info? elem with
  | none => simp [hq] at hs
  | some i => simp [Builtin.copy_, run_underlying hu, Builtin.lenOf, Builtin.firstCells, sizeOf, typeInfo, hq, storeCells]
section
variable {w0 w : World} {F0 : List Nat} {L : List Res} {p : Nat} {s : Sv} {K : List Rom} {v : Value}
theorem mbFlat_len (l : List Mb) : (l.map mbVals).flatten.length = l.length * 2 := by
  induction l with
  | nil => rfl
  | cons x l ih => simp [mbVals, List.flatten_cons] at ih ⊢; omega
/-- A slice of mailboxes, made anew and filled by copy. -/
theorem Sp.mbCopy {l : List Mb} {a : Option Addr} {c : Nat} (ty : TypeId) (hn : l.length ≤ 1000000) (S : Sp w0 F0 w (mbxR (.slice a l.length c) l :: L)) :
    ∃ w2, (Builtin.copy_ #[29, 29] ty #[.slice (some ⟨w.heap.size, 0, none⟩) l.length l.length, .slice a l.length c]).run Tryz.prog (w.alloc (.cells (madeCells #[.string ⟨#[]⟩, .string ⟨#[]⟩] (l.length * 2)) 37)) = .ok (.int .i64 l.length) w2 ∧ Sp w0 F0 w2 (mbxR (.slice (some ⟨w.heap.size, 0, none⟩) l.length l.length) l :: mbxR (.slice a l.length c) l :: L) := by
  have S1 := S.rowLaid 37 2 l.length (madeCells #[.string ⟨#[]⟩, .string ⟨#[]⟩] (l.length * 2)).toList (by simp [size_madeCells]) (by unfold maxLen; omega)
  rw [Array.toArray_toList] at S1
  have hfl := mbFlat_len l
  have hmin : Nat.min l.length l.length = l.length := Nat.min_self _
  rcases S.rowForm with ⟨h1, h2⟩ | ⟨g, cap, h1⟩
  · have hl : l = [] := List.eq_nil_of_length_eq_zero h2
    subst hl
    cases h1
    refine ⟨_, run_copy_none_k _ _ _ ty 37 2 _ 0 Tryz.underlying29 (by kernel_rfl), ?_⟩
    have e0 : (madeCells #[.string ⟨#[]⟩, .string ⟨#[]⟩] (([] : List Mb).length * 2)).toList = [] := List.eq_nil_of_length_eq_zero (by simp [size_madeCells])
    rw [e0] at S1
    exact S1
  · cases h1
    have hb := S1.row
    obtain ⟨F, h0, hk⟩ := S1.take
    have hbx : (w.alloc (.cells (madeCells #[.string ⟨#[]⟩, .string ⟨#[]⟩] (l.length * 2)) 37)).heap[w.heap.size]? = some (.cells (madeCells #[.string ⟨#[]⟩, .string ⟨#[]⟩] (l.length * 2)) 37 (0, 0)) := (MapKept.heap_alloc w _).1
    have hl2 : ∀ x ∈ l.map mbVals, x.length = 2 := fun x hx => by
      obtain ⟨r, _, rfl⟩ := List.mem_map.1 hx
      rfl
    have hcl : ∀ j u, ((l.map mbVals).flatten)[j]? = some u → (w.alloc (.cells (madeCells #[.string ⟨#[]⟩, .string ⟨#[]⟩] (l.length * 2)) 37)).cell? ((⟨g, 0, none⟩ : Addr).add j) = some u := fun j u hj => S1.pull1.row.cells rfl j u hj
    obtain ⟨C2, e1, e2, e3, e4, e5⟩ := setCells_heap (l.map mbVals).flatten (off := 0) hbx (by rw [hfl, size_madeCells]; omega)
    have hr := run_copy_k (w.alloc (.cells (madeCells #[.string ⟨#[]⟩, .string ⟨#[]⟩] (l.length * 2)) 37)) 29 29 ty 37 2 w.heap.size 0 l.length l.length ⟨g, 0, none⟩ l.length c (l.map mbVals).flatten Tryz.underlying29 (by kernel_rfl) (by rw [hmin]; exact hfl) hcl
      (fun j hj => by
        have hlt : j < (madeCells #[.string ⟨#[]⟩, .string ⟨#[]⟩] (l.length * 2)).size := by rw [size_madeCells]; omega
        rw [Nat.zero_add, box_cell hbx, Array.getElem?_eq_getElem hlt]
        rfl)
      (fun j _ => by
        unfold World.frozen?
        dsimp only
        rw [hbx]
        simp) (fun u hu => by
        obtain ⟨r, hr, hu⟩ := List.mem_flatten.1 hu
        obtain ⟨m, _, rfl⟩ := List.mem_map.1 hr
        simp only [mbVals, List.mem_cons, List.not_mem_nil, or_false] at hu
        rcases hu with rfl | rfl <;> rfl)
    rw [hmin] at hr
    refine ⟨_, hr, ?_⟩
    obtain ⟨hF, _⟩ := h0
    refine hk _ (mbxR (.slice (some ⟨w.heap.size, 0, none⟩) l.length l.length) l) [w.heap.size] ⟨rfl, ?_⟩ (by rw [hF]; exact Moved.of_ext e5)
    refine ⟨hfl, .inr ⟨w.heap.size, l.length, C2, rfl, Nat.zero_le _, e1, Nat.le_refl _, by unfold maxLen; omega, by rw [e2, size_madeCells], ?_⟩⟩
    apply List.ext_getElem?
    intro j
    rw [List.getElem?_take]
    by_cases hj : j < l.length * 2
    · rw [if_pos hj]
      have := e4 j (by omega)
      rw [Nat.zero_add] at this
      simpa using this
    · rw [if_neg hj, List.getElem?_eq_none (by omega)]
/-! ### what is joined of no lines -/
set_option maxRecDepth 100000 in
set_option maxHeartbeats 1000000 in
theorem stringS0 {b : Nat} (S : Sp w0 F0 w (boxR b #[.pointer none, .slice none 0 0] 119 :: L)) : Calls Tryz.prog 78 #[.pointer (some ⟨b, 0, none⟩)] w fun e w2 => e = .returned (.string ⟨#[]⟩) ∧ Sp w0 F0 w2 L := by
  have c0 := S.drew.cell
  have hSD : ∀ ts ty, (Builtin.unsafeSliceData_ ts ty #[.slice none 0 0]).run Tryz.prog w.drew = .ok (.pointer none) w.drew := fun ts ty => rfl
  have hUS : (Builtin.unsafeString_ #[140, 3] 9 #[.pointer none, .int .i64 0]).run Tryz.prog w.drew = .ok (.string ⟨#[]⟩) w.drew := by rfl
  have HS := Lib.hid S.drop.drew
  clear S
  go_enter Tryz.func78, Tryz.ntmps78
  go_wp2
  go_region
  all_goals (go_wp2; go_ret; exact ⟨rfl, HS.out⟩)
set_option maxRecDepth 100000 in
set_option maxHeartbeats 1000000 in
theorem lnJoinS0 (T : TxAt w v []) (S : Sp w0 F0 w L) : Calls Tryz.prog 114 #[v] w fun e w2 => e = .returned (.string ⟨#[]⟩) ∧ Sp w0 F0 w2 L := by
  obtain ⟨a, cap, rfl⟩ := T.form
  have HS0 := Lib.hid (S.box #[.pointer none, .slice none 0 0] 119)
  clear T S
  go_enter Tryz.func114, Tryz.ntmps114
  go_wp2_with fail
  generalize w.alloc (.cells #[.pointer none, .slice none 0 0] 119) = w1 at *
  generalize w.heap.size = q at *
  go_loopw [8] (fun i wr => i = .int .i64 0 ∧ wr = w1) (fun i _ => 0)
  case atStart => exact ⟨rfl, rfl⟩
  case round =>
    obtain ⟨rfl, rfl⟩ := hrel
    go_wp2_with fail
    refine (stringS0 HS0.out).mono ?_
    rintro e w3 ⟨rfl, S3⟩
    have HS3 := Lib.hid S3
    go_wp2
    go_ret
    exact ⟨rfl, HS3.out⟩
theorem lnJoinT (l : List Bs) (hn : l.length ≤ 1000000) (hs : ∀ s ∈ l, s.length ≤ 1000000) (T : TxAt w v l) (S : Sp w0 F0 w L) : Calls Tryz.prog 114 #[v] w fun e w2 => e = .returned (.string ⟨(lnJoin l).toArray⟩) ∧ Sp w0 F0 w2 L := by
  by_cases h : l = []
  · subst h
    exact lnJoinS0 T S
  · exact lnJoinS l h hn hs T S
end
end Go.Proofs.YtapenolbbofjkaaGreatDoor
