/- ServerPieces: its walk, with the plain law. Conditions: what Go's variables hold; the arguments fit. -/
import Derived.Test.YtapenolbbofjkaaGreatDoorAw21d
import Derived.Test.YtapenolbbofjkaaGreatDoorPc21
import Derived.Test.YtapenolbbofjkaaGreatDoorPcP
import Derived.Test.YtapenolbbofjkaaGreatDoorActT
set_option linter.unusedSimpArgs false
set_option linter.unusedVariables false
set_option linter.unnecessarySimpa false
namespace Go.Proofs.YtapenolbbofjkaaGreatDoor
open Go.RowKit Go.Maps

theorem flat_at {α : Type} (f : α → List Value) (k : Nat) (hk : ∀ x, (f x).length = k) : ∀ (l : List α) (i j : Nat) (hi : i < l.length), j < k → ((l.map f).flatten)[i * k + j]? = (f l[i])[j]?
  | x :: l, 0, j, _, hj => by
    rw [List.map_cons, List.flatten_cons, Nat.zero_mul, Nat.zero_add, List.getElem?_append_left (by rw [hk]; exact hj)]
    rfl
  | x :: l, i + 1, j, hi, hj => by
    have e : (i + 1) * k + j = k + (i * k + j) := by rw [Nat.succ_mul]; omega
    rw [List.map_cons, List.flatten_cons, e, List.getElem?_append_right (by rw [hk]; omega), hk, Nat.add_sub_cancel_left]
    exact flat_at f k hk l i j (by simpa using hi) hj
section
variable {w0 w w2 : World} {F0 : List Nat} {L : List Res} {p : Nat} {s : Sv} {K : List Rom} {v : Value}
set_option maxRecDepth 100000 in
set_option maxHeartbeats 4000000 in
theorem boxes21_eq {v2 : Value} (l : List Mb) (hn : l.length ≤ maxLen) (T : BxsAt w v l) (T2 : BxsAt w v2 l) : Calls Tryz.prog 16 #[v, v2] w fun e w2 => e = .returned (.bool true) ∧ ∃ q, w2 = w.drewN q := by
  have HT := Lib.hid T
  have HT2 := Lib.hid T2
  obtain ⟨a, cap, rfl⟩ := T.form
  obtain ⟨a2, cap2, rfl⟩ := T2.form
  clear T T2
  have hl' : (l.length : Int) ≤ 9223372036854775807 := by unfold maxLen at hn; omega
  clear hn
  go_enter Tryz.func16, Tryz.ntmps16
  go_wp2_with fail
  go_loopw [13] (fun i wr => ∃ k q : Nat, i = .int .i64 k ∧ k ≤ l.length ∧ wr = w.drewN q) (fun i _ => l.length - (intOf i).toNat)
  case atStart => exact ⟨0, 0, rfl, Nat.zero_le _, rfl⟩
  case round =>
    obtain ⟨k, q, rfl, hk, rfl⟩ := hrel
    by_cases hlt : k < l.length
    · have hlt' : (k : Int) < l.length := by omega
      obtain ⟨b, off, rfl, ck, dk⟩ := HT.out.at hlt
      obtain ⟨b2, off2, rfl, ck2, dk2⟩ := HT2.out.at hlt
      generalize l[k] = x at *
      obtain ⟨xl, xd⟩ := x
      dsimp only at *
      go_wp2_with fail
      go_region
      go_wp2_with fail
      go_roundw
      case rel => exact ⟨k + 1, q + 1, by go_num, by omega, rfl⟩
      case measure => simp [intOf]; omega
    · go_wp2
      go_ret
      exact ⟨rfl, q, rfl⟩
theorem QEv.in.bxs {q : QEv} (h : q.in K) (S : Sp w0 F0 w (romR K :: L)) : BxsAt w q.2.2 q.1.rcs ∧ q.1.rcs.length ≤ maxLen := by
  rcases h.2 with ⟨h1, h2⟩ | h
  · rw [h1, h2]
    exact ⟨⟨none, 0, rfl, .inl rfl⟩, Nat.zero_le _⟩
  · refine ⟨S.romBxs h, ?_⟩
    obtain ⟨F, a, cap, h1, h2, h3, h4⟩ := S.rom h
    dsimp only at h2
    rw [List.length_map] at h2
    omega
theorem Sp.queNew (S : Sp w0 F0 w L) : Sp w0 F0 (w.alloc (.cells #[] 39)) (queR (.slice (some ⟨w.heap.size, 0, none⟩) 0 0) [] :: L) :=
  S.gain (G := [w.heap.size]) ((Ext.refl [] w).alloc _) ⟨rfl, .inr ⟨w.heap.size, 0, 0, #[], rfl, rfl, (MapKept.heap_alloc w _).1, Nat.le_refl _, Nat.le_refl _, by unfold maxLen; omega, fun j hj => by simp at hj⟩⟩ (by simp)
/-- Two sessions beside each other, and what each let happen. -/
def PcAt (w0 : World) (q : Nat) (ev : Int) (p1 : Nat) (s1 : Sv) (K1 : List Rom) (v1 : Value) (q1 : List QEv) (p2 : Nat) (s2 : Sv) (K2 : List Rom) (v2 : Value) (q2 : List QEv) (w : World) : Prop :=
  ∃ X1 X2 : SvV, X1.Ok s1 K1 ∧ X2.Ok s2 K2 ∧ Sp w0 [] w (svL p1 s1 X1 K1 (boxR q #[.int .i64 ev] 23 :: queR v1 q1 :: queR v2 q2 :: svL p2 s2 X2 K2 []))
def PcT (g off g2 off2 k : Nat) (x : Ev) (xv yv : Value) (wx : World) : Prop := wx.cell? ⟨g, off + k * 8, none⟩ = some (.int .i64 x.kind) ∧ wx.cell? ⟨g, off + k * 8 + 1, none⟩ = some (.int .i64 x.code) ∧ wx.cell? ⟨g, off + k * 8 + 4, none⟩ = some (.string ⟨x.frm.1.toArray⟩) ∧ wx.cell? ⟨g, off + k * 8 + 5, none⟩ = some (.string ⟨x.frm.2.toArray⟩) ∧ wx.cell? ⟨g, off + k * 8 + 6, none⟩ = some xv ∧ wx.cell? ⟨g, off + k * 8 + 7, none⟩ = some (.string ⟨x.body.toArray⟩) ∧ wx.cell? ⟨g2, off2 + k * 8, none⟩ = some (.int .i64 x.kind) ∧ wx.cell? ⟨g2, off2 + k * 8 + 1, none⟩ = some (.int .i64 x.code) ∧ wx.cell? ⟨g2, off2 + k * 8 + 4, none⟩ = some (.string ⟨x.frm.1.toArray⟩) ∧ wx.cell? ⟨g2, off2 + k * 8 + 5, none⟩ = some (.string ⟨x.frm.2.toArray⟩) ∧ wx.cell? ⟨g2, off2 + k * 8 + 6, none⟩ = some yv ∧ wx.cell? ⟨g2, off2 + k * 8 + 7, none⟩ = some (.string ⟨x.body.toArray⟩)
section
variable {q p1 p2 : Nat} {ev : Int} {s1 s2 : Sv} {K1 K2 : List Rom} {v1 v2 : Value} {q1 q2 : List QEv}
theorem PcAt.one (h : PcAt w0 q ev p1 s1 K1 v1 q1 p2 s2 K2 v2 q2 w) : ∃ X2 : SvV, X2.Ok s2 K2 ∧ SvAt w0 (boxR q #[.int .i64 ev] 23 :: queR v1 q1 :: queR v2 q2 :: svL p2 s2 X2 K2 []) p1 s1 K1 w := by
  obtain ⟨X1, X2, h1, h2, S⟩ := h
  exact ⟨X2, h2, X1, h1, S⟩
theorem PcAt.of {X2 : SvV} (h : X2.Ok s2 K2) (A : SvAt w0 (boxR q #[.int .i64 ev] 23 :: queR v1 q1 :: queR v2 q2 :: svL p2 s2 X2 K2 []) p1 s1 K1 w) : PcAt w0 q ev p1 s1 K1 v1 q1 p2 s2 K2 v2 q2 w := by
  obtain ⟨X1, h1, S⟩ := A
  exact ⟨X1, X2, h1, h, S⟩
theorem PcAt.swap (h : PcAt w0 q ev p1 s1 K1 v1 q1 p2 s2 K2 v2 q2 w) : PcAt w0 q ev p2 s2 K2 v2 q2 p1 s1 K1 v1 q1 w := by
  obtain ⟨X1, X2, h1, h2, S⟩ := h
  exact ⟨X2, X1, h2, h1, (Sp.pick [_, _, _, _, _, _, _, _, _, _, _, _, _, _, _] [9, 10, 11, 12, 13, 14, 6, 8, 7, 0, 1, 2, 3, 4, 5] (by decide) (S))⟩
theorem PcAt.ext (h : PcAt w0 q ev p1 s1 K1 v1 q1 p2 s2 K2 v2 q2 w) : Ext [] w0 w := by
  obtain ⟨X1, X2, h1, h2, S⟩ := h
  exact S.ext
theorem PcAt.drewN (h : PcAt w0 q ev p1 s1 K1 v1 q1 p2 s2 K2 v2 q2 w) (n : Nat) : PcAt w0 q ev p1 s1 K1 v1 q1 p2 s2 K2 v2 q2 (w.drewN n) := by
  obtain ⟨X1, X2, h1, h2, S⟩ := h
  exact ⟨X1, X2, h1, h2, S.drewN n⟩
theorem que_cells {l : List QEv} (S : Sp w0 F0 w (queR v l :: L)) : ∃ a cap, v = .slice a l.length cap ∧ (0 < l.length → ∃ g off, a = some ⟨g, off, none⟩ ∧ ∀ k (h : k < l.length), ∀ j u, (QEv.vals l[k])[j]? = some u → w.cell? ⟨g, off + (k * 8 + j), none⟩ = some u) := by
  rcases S.rowForO with ⟨h1, h2⟩ | ⟨g, off, cap, h1, hc⟩
  · exact ⟨none, 0, by rw [h1, h2], fun h => by omega⟩
  · subst h1
    refine ⟨_, cap, rfl, fun _ => ⟨g, off, rfl, fun k hk j u hj => ?_⟩⟩
    refine S.rowOCell (k * 8 + j) u ?_
    have hjl : j < 8 := (List.getElem?_eq_some_iff.1 hj).1
    have := flat_at QEv.vals 8 (fun _ => rfl) l k j hk hjl
    rw [this]
    exact hj
theorem flat_le : ∀ (l : List Bs), (∀ b ∈ l, b.length ≤ 2000) → l.flatten.length ≤ l.length * 2000
  | [], _ => by simp
  | a :: l, hb => by
    have := flat_le l fun x hx => hb x (by simp [hx])
    have := hb a (by simp)
    rw [List.flatten_cons, List.length_append, List.length_cons]
    omega
/-- An element of a queue, cell by cell. -/
theorem que_get {l : List QEv} {g off k : Nat} (h : ∀ k (h : k < l.length), ∀ j u, (QEv.vals l[k])[j]? = some u → w.cell? ⟨g, off + (k * 8 + j), none⟩ = some u) (hk : k < l.length) :
    w.cell? ⟨g, off + k * 8, none⟩ = some (.int .i64 l[k].1.kind) ∧ w.cell? ⟨g, off + k * 8 + 1, none⟩ = some (.int .i64 l[k].1.code) ∧ w.cell? ⟨g, off + k * 8 + 4, none⟩ = some (.string ⟨l[k].1.frm.1.toArray⟩) ∧ w.cell? ⟨g, off + k * 8 + 5, none⟩ = some (.string ⟨l[k].1.frm.2.toArray⟩) ∧ w.cell? ⟨g, off + k * 8 + 6, none⟩ = some l[k].2.2 ∧ w.cell? ⟨g, off + k * 8 + 7, none⟩ = some (.string ⟨l[k].1.body.toArray⟩) := by
  have g0 := fun j u hj => h k hk j u hj
  refine ⟨g0 0 _ rfl, ?_, ?_, ?_, ?_, ?_⟩
  · exact g0 1 _ rfl
  · exact g0 4 _ rfl
  · exact g0 5 _ rfl
  · exact g0 6 _ rfl
  · exact g0 7 _ rfl
set_option maxRecDepth 100000 in
set_option maxHeartbeats 16000000 in
theorem serverPieces_walk (v : Value) (l : List Bs) (ev : Int) (w : World) (E : Env w) (T : TextsAt w v l) (hev : -9223372036854775808 ≤ ev ∧ ev ≤ 9223372036854775807) : Calls Tryz.prog 3 #[v, .int .i64 ev] w fun e w2 => e = .returned (.bool true) ∧ Ext [] w w2 := by
  have HE := Lib.hid E
  have HT := Lib.hid T
  have HEV := Lib.hid hev
  have HS0 := Lib.hid ((Sp.nil w []).box #[.int .i64 ev] 23)
  have HFR : ∃ a c, v = .slice a l.length c ∧ (l.length : Int) ≤ 9223372036854775807 := by
    obtain ⟨a, c, h1, ⟨h2, h3⟩, _⟩ := T.1
    exact ⟨a, c, h1, by unfold maxLen at h3; omega⟩
  obtain ⟨va, vc, rfl, hln⟩ := HFR
  clear E T hev
  go_enter Tryz.func3, Tryz.ntmps3
  go_upto_region 1 with (fail)
  generalize w.alloc _ = w1 at *
  generalize w.heap.size = q at *
  go_wp2_with fail
  refine (awake21S HS0.out HE.out).mono ?_
  rintro e w2 ⟨rfl, S2⟩
  have HS2 := Lib.hid S2
  clear S2 HS0
  go_wp2_with fail
  refine (small21S HS2.out).mono ?_
  rintro e w3 ⟨b1, b2, rfl, S3⟩
  have HS3 := Lib.hid S3
  clear S3 HS2
  go_wp2_with fail
  refine (newSmallS HS3.out HE.out).mono ?_
  rintro e w4 ⟨pa, Ka, rfl, A4⟩
  obtain ⟨Xa, hXa, S4⟩ := A4
  have HXA := Lib.hid hXa
  have HS4 := Lib.hid S4
  clear S4 hXa HS3
  go_wp2_with fail
  refine (small21S HS4.out).mono ?_
  rintro e w5 ⟨b3, b4, rfl, S5⟩
  have HS5 := Lib.hid S5
  clear S5 HS4
  go_wp2_with fail
  refine (newSmallS HS5.out HE.out).mono ?_
  rintro e w6 ⟨pb, Kb, rfl, A6⟩
  obtain ⟨Xb, hXb, S6⟩ := A6
  have HXB := Lib.hid hXb
  have HA6 : Hid (PcAt w q ev pa (svNew cfS) Ka (.slice (some ⟨w6.heap.size, 0, none⟩) 0 0) [] pb (svNew cfS) Kb (.slice (some ⟨w6.heap.size + 1, 0, none⟩) 0 0) [] ((w6.alloc (.cells #[] 39)).alloc (.cells #[] 39))) :=
    ⟨Xa, Xb, HXA.out, HXB.out, by
      have hz : (w6.alloc (.cells #[] 39)).heap.size = w6.heap.size + 1 := Array.size_push _
      have S7 := S6.queNew.queNew
      rw [hz] at S7
      exact (Sp.pick [_, _, _, _, _, _, _, _, _, _, _, _, _, _, _] [8, 9, 10, 11, 12, 13, 14, 1, 0, 2, 3, 4, 5, 6, 7] (by decide) (S7))⟩
  clear S6 hXb HS5 HXA HXB
  go_upto_region 8 with (fail)
  generalize Value.slice (some ⟨w6.heap.size, 0, none⟩) 0 0 = vx at *
  generalize Value.slice (some ⟨w6.heap.size + 1, 0, none⟩) 0 0 = vy at *
  generalize (w6.alloc (.cells #[] 39)).alloc (.cells #[] 39) = w7 at *
  go_upto_region 10 with (fail)
  have HSB : Hid (∀ z, (Sv.with (svNew cfS) z).Sane) := fun z => by
    have h := sane_new cfS_fit
    exact ⟨h.c, h.phase, h.errs, h.few, h.queue, h.rcs, h.size, h.lines⟩
  have HWN := Lib.hid with_new
  have HFD := Lib.hid (fun (n : Nat) (hb : ∀ b ∈ l.take n, b.length ≤ 2000) => pc_feed ev (l.take n).length (l.take n) hb rfl)
  have HFS := Lib.hid (fun (a : List Bs) (b : Bs) => feed_snoc ev 262144 a b (svNew cfS))
  have HPE := Lib.hid (fun (a : List Bs) (hb : ∀ b ∈ a, b.length ≤ 2000) (hl : a.length ≤ 60) => pc_end ev a hb hl)
  have HWA := Lib.hid with_add
  have HSN0 := Lib.hid (sane_new cfS_fit)
  have HCM0 : Hid ((svNew cfS).came.length ≤ 0 * 2000) := by unfold Hid; rw [new_facts.2.1]; exact Nat.le_refl _
  have HF0 : Hid (Sv.feed ev 262144 (l.take 0) (svNew cfS) = ([], svNew cfS)) := rfl
  have HA6 : Hid (PcAt w q ev pa (svNew cfS) Ka vx [] pb (Sv.with (svNew cfS) []) Kb vy [] w7) := by unfold Hid; rw [HWN.out]; exact HA6.out
  generalize hs0 : svNew cfS = s0 at *
  go_loopw [9, 12] (fun vx vi wr => ∃ (n : Nat) (qx : List QEv) (s1 : Sv) (Ka' : List Rom), vi = .int .i64 n ∧ n ≤ 60 ∧ n ≤ l.length ∧ (∀ b ∈ l.take n, b.length ≤ 2000) ∧ s1 = (Sv.feed ev 262144 (l.take n) s0).2 ∧ qx.map (·.1) = (Sv.feed ev 262144 (l.take n) s0).1 ∧ s1.Sane ∧ s1.came.length ≤ n * 2000 ∧ (∀ x ∈ qx, x.in Ka') ∧ PcAt w q ev pa s1 Ka' vx qx pb (Sv.with s0 (l.take n).flatten) Kb vy [] wr) (fun _ vi _ => 60 - (intOf vi).toNat)
  case atStart => exact ⟨0, [], s0, Ka, rfl, Nat.zero_le _, Nat.zero_le _, by simp, by rw [HF0.out], by rw [HF0.out]; rfl, HSN0.out, HCM0.out, by simp, by show PcAt w q ev pa s0 Ka vx [] pb (Sv.with s0 []) Kb vy [] w7; exact HA6.out⟩
  case round =>
    clear HA6 HSN0 HCM0 HF0
    obtain ⟨n, qx, s1, Ka', rfl, hn, hnl, hall, hs1, hmp, hsn, hcm, hin, hp⟩ := hrel
    have HALL := Lib.hid hall
    have HS1 := Lib.hid hs1
    have HMP := Lib.hid hmp
    have HSN := Lib.hid hsn
    have HCM := Lib.hid hcm
    have HIN := Lib.hid hin
    have HP := Lib.hid hp
    have HFL : Hid ((l.take n).flatten.length ≤ n * 2000) := by
      have h := flat_le (l.take n) hall
      rw [List.length_take] at h
      unfold Hid
      omega
    have HQL : Hid (qx.length ≤ 126000) := by
      have h1 := congrArg List.length hmp
      rw [List.length_map] at h1
      have h2 := (HFD.out n hall).2
      rw [List.length_take] at h2
      unfold Hid
      omega
    clear hall hs1 hmp hsn hcm hin hp
    have hni : (n : Int) ≤ 60 := by omega
    by_cases hlt : n < 60 ∧ n < l.length
    · obtain ⟨h60, hlt⟩ := hlt
      have h60' : (n : Int) < 60 := by omega
      have hlt' : (n : Int) < l.length := by omega
      obtain ⟨tb, toff, rfl, ckw⟩ := HT.out.1.at hlt
      have ck := HP.out.ext.cell ckw (by simp)
      have HBL : Hid (l[n].length ≤ maxLen) := HT.out.2 _ (List.getElem_mem hlt)
      have HTK : Hid (l.take (n + 1) = l.take n ++ [l[n]]) := List.take_succ_eq_append_getElem hlt
      generalize l[n] = b at *
      have HCW := Lib.hid ckw
      clear ckw
      have hbm : (b.length : Int) ≤ 9223372036854775807 := by have := HBL.out; unfold maxLen at this; omega
      by_cases hb2 : 2000 < b.length
      · have hb2' : (2000 : Int) < b.length := by omega
        go_wp2
        go_ret
        exact ⟨rfl, HP.out.ext⟩
      · have hb2' : (b.length : Int) ≤ 2000 := by omega
        have HALL2 : Hid (∀ x ∈ l.take (n + 1), x.length ≤ 2000) := fun x hx => by
          rw [HTK.out] at hx
          rcases List.mem_append.1 hx with h | h
          · exact HALL.out x h
          · rw [List.mem_singleton.1 h]; omega
        have HF2 : Hid (Sv.feed ev 262144 (l.take (n + 1)) s0 = ((Sv.feed ev 262144 (l.take n) s0).1 ++ (Sv.drain ev 262144 (s1.add b)).1, (Sv.drain ev 262144 (s1.add b)).2)) := by
          unfold Hid
          rw [HTK.out, HS1.out]
          exact HFS.out (l.take n) b
        have HFL2 : Hid ((l.take (n + 1)).flatten = (l.take n).flatten ++ b) := by unfold Hid; rw [HTK.out]; simp
        have HWA2 : Hid ((Sv.with s0 (l.take n).flatten).add b = Sv.with s0 (l.take (n + 1)).flatten) := by
          unfold Hid
          rw [HFL2.out]
          exact HWA.out _ _
        obtain ⟨X2, hX2, A1⟩ := HP.out.one
        have HX2 := Lib.hid hX2
        have HADD := Lib.hid (svAddS b (by have := HCM.out; omega) HSN.out.phase A1)
        have HSN1 := Lib.hid (sane_add HSN.out b)
        have HCM1 : Hid ((s1.add b).came.length ≤ (n + 1) * 2000) := by
          have := HCM.out
          unfold Hid Sv.add
          split
          · omega
          · show (s1.came ++ b).length ≤ _
            rw [List.length_append]
            omega
        clear A1 hX2 hbm hb2 HALL HS1 HSN HCM HTK HFL2 HWA HFS
        generalize s1.add b = s2 at *
        go_wp2_with fail
        refine HADD.out.mono ?_
        rintro e w8 ⟨rfl, A2⟩
        have HDR := Lib.hid (drain21S ev HEV.out HSN1.out (by have := HCM1.out; omega) (by have := HQL.out; omega) HIN.out HE.out A2)
        clear A2 HADD ck HP
        go_wp2_with fail
        refine HDR.out.mono ?_
        rintro e w9 ⟨v9, q9, K9, rfl, hk9, hm9, hi9, A9⟩
        have HP9 := Lib.hid (PcAt.of HX2.out A9).swap
        have HM9 : Hid (q9.map (·.1) = (Sv.feed ev 262144 (l.take (n + 1)) s0).1) := by unfold Hid; rw [hm9, HF2.out, HMP.out]
        have HI9 := Lib.hid hi9
        have HSN9 := Lib.hid (sane_drain ev 262144 HSN1.out)
        have HCM9 : Hid ((Sv.drain ev 262144 s2).2.came.length ≤ (n + 1) * 2000) := Nat.le_trans (drain_came ev 262144 s2) HCM1.out
        have HS9 : Hid ((Sv.drain ev 262144 s2).2 = (Sv.feed ev 262144 (l.take (n + 1)) s0).2) := by unfold Hid; rw [HF2.out]
        generalize (Sv.drain ev 262144 s2).2 = s9 at *
        clear A9 HDR hk9 hm9 hi9 HF2 HX2 HMP HIN
        obtain ⟨Y2, hY2, B1⟩ := HP9.out.one
        have HY2 := Lib.hid hY2
        have HADB := Lib.hid (svAddS b (by have := HFL.out; show (l.take n).flatten.length + _ ≤ _; omega) (HSB.out _).phase B1)
        have ck9 := HP9.out.ext.cell HCW.out (by simp)
        clear B1 hY2
        go_wp2_with fail
        refine HADB.out.mono ?_
        rintro e w10 ⟨rfl, B2⟩
        rw [HWA2.out] at B2
        have HPZ := Lib.hid (PcAt.of HY2.out B2).swap
        clear B2 HADB HP9 HY2
        go_wp2_with fail
        go_roundw
        case rel => exact ⟨n + 1, q9, s9, K9, by go_num, by omega, by omega, HALL2.out, HS9.out, HM9.out, HSN9.out, HCM9.out, HI9.out, HPZ.out⟩
        case measure => simp [intOf]; omega
    · have hor : ¬ (n : Int) < l.length ∨ ((n : Int) < l.length ∧ ¬ (n : Int) < 60) := by omega
      have HEND : Hid ((Sv.feed ev 262144 (l.take n) s0).1 ++ (Sv.drain ev 262144 s1).1 = (Sv.drain ev 262144 (Sv.with s0 (l.take n).flatten)).1 ∧ (Sv.drain ev 262144 s1).2.phase = (Sv.drain ev 262144 (Sv.with s0 (l.take n).flatten)).2.phase) := by
        have h := HPE.out (l.take n) HALL.out (by rw [List.length_take]; omega)
        rw [← HS1.out] at h
        exact h
      obtain ⟨Y2, hY2, B1⟩ := HP.out.swap.one
      have HY2 := Lib.hid hY2
      have HDRB := Lib.hid (drain21S ev HEV.out (HSB.out _) (by have := HFL.out; show (l.take n).flatten.length ≤ _; omega) (Nat.zero_le _) (by simp) HE.out B1)
      clear hY2 B1 hlt HFS HPE HWA
      rcases hor with h60 | ⟨h60, h61⟩
      all_goals
        go_wp2_with fail
        refine HDRB.out.mono ?_
        rintro e w8 ⟨v8, q8, K8, rfl, hk8, hm8, hi8, A8⟩
        obtain ⟨X2, hX2, A1⟩ := (PcAt.of HY2.out A8).swap.one
        have HX2 := Lib.hid hX2
        have HM8 := Lib.hid hm8
        have HI8 := Lib.hid hi8
        have HDRA := Lib.hid (drain21S ev HEV.out HSN.out (by have := HCM.out; omega) (by have := HQL.out; omega) HIN.out HE.out A1)
        clear A8 A1 hX2 hm8 hi8 hk8 HDRB
        go_wp2_with fail
        refine HDRA.out.mono ?_
        rintro e w9 ⟨v9, q9, K9, rfl, hk9, hm9, hi9, A9⟩
        have HEQ : Hid (q9.map (·.1) = q8.map (·.1)) := by
          unfold Hid
          rw [hm9, HM8.out, HMP.out, HEND.out.1]
          rfl
        have HQ9 : Hid (q9.length ≤ 130000) := by
          have h1 := congrArg List.length hm9
          rw [List.length_map, List.length_append, List.length_map] at h1
          have h2 := pc_last ev (s := s1) (by rw [HS1.out]; exact (HFD.out n HALL.out).1)
          have h3 := HQL.out
          unfold Hid
          omega
        have HPHQ : Hid (((Sv.drain ev 262144 s1).2.phase : Int) = (Sv.drain ev 262144 (Sv.with s0 (l.take n).flatten)).2.phase) := by
          have h := HEND.out.2
          unfold Hid
          omega
        have HI9 := Lib.hid hi9
        have HP9 := Lib.hid (PcAt.of HX2.out A9)
        generalize (Sv.drain ev 262144 s1).2 = s8 at *
        generalize (Sv.drain ev 262144 (Sv.with s0 (l.take n).flatten)).2 = s9 at *
        clear A9 HDRA hm9 hi9 hk9 HM8 HMP HEND HSN HCM HQL HIN HFL HS1 HP HALL HX2 HY2 HSB HWN HFD
        have HLN : Hid (q9.length = q8.length) := by
          have h := congrArg List.length HEQ.out
          rw [List.length_map, List.length_map] at h
          exact h
        have HCX : Hid (∀ W, PcAt w q ev pa s8 K9 v9 q9 pb s9 K8 v8 q8 W → (∃ a cap, v9 = .slice a q9.length cap ∧ (0 < q9.length → ∃ g off, a = some ⟨g, off, none⟩ ∧ ∀ k (h : k < q9.length), ∀ j u, (QEv.vals q9[k])[j]? = some u → W.cell? ⟨g, off + (k * 8 + j), none⟩ = some u)) ∧ (∃ a cap, v8 = .slice a q8.length cap ∧ (0 < q8.length → ∃ g off, a = some ⟨g, off, none⟩ ∧ ∀ k (h : k < q8.length), ∀ j u, (QEv.vals q8[k])[j]? = some u → W.cell? ⟨g, off + (k * 8 + j), none⟩ = some u))) := by
          rintro W ⟨X1, X2, _, _, S⟩
          exact ⟨que_cells ((Sp.pick [_, _, _, _, _, _, _, _, _, _, _, _, _, _, _] [7] (by decide) (S))), que_cells ((Sp.pick [_, _, _, _, _, _, _, _, _, _, _, _, _, _, _] [8] (by decide) (S)))⟩
        have HBX : Hid (∀ W, PcAt w q ev pa s8 K9 v9 q9 pb s9 K8 v8 q8 W → (∀ x ∈ q9, BxsAt W x.2.2 x.1.rcs ∧ x.1.rcs.length ≤ maxLen) ∧ (∀ x ∈ q8, BxsAt W x.2.2 x.1.rcs)) := by
          rintro W ⟨X1, X2, _, _, S⟩
          exact ⟨fun x hx => (HI9.out x hx).bxs ((Sp.pick [_, _, _, _, _, _, _, _, _, _, _, _, _, _, _] [5] (by decide) (S))), fun x hx => ((HI8.out x hx).bxs ((Sp.pick [_, _, _, _, _, _, _, _, _, _, _, _, _, _, _] [14] (by decide) (S)))).1⟩
        have HPH1 := Lib.hid (svPhaseS HP9.out.one.choose_spec.2)
        have HPH2 := Lib.hid (svPhaseS HP9.out.swap.one.choose_spec.2)
        obtain ⟨⟨xa, xcap, rfl, _⟩, ⟨ya, ycap, rfl, _⟩⟩ := HCX.out w9 HP9.out
        have hle : (((q9.length : Nat) : Int) != (q8.length : Int)) = false := by have := HLN.out; simp [this]
        have hpe : ((s8.phase : Int) != (s9.phase : Int)) = false := by have := HPHQ.out; simp [this]
        have hql : (q9.length : Int) = q8.length := by have := HLN.out; omega
        have hqm : (q9.length : Int) ≤ 130000 := by have := HQ9.out; omega
        clear HPHQ HI8 HI9
        go_wp2_with fail
        refine HPH1.out.mono ?_
        rintro e w10 ⟨rfl, rfl⟩
        go_wp2_with fail
        refine HPH2.out.mono ?_
        rintro e w10 ⟨rfl, rfl⟩
        clear HPH1 HPH2
        go_wp2_with fail
        go_loopw [89] (fun vi wr => ∃ k m : Nat, vi = .int .i64 k ∧ k ≤ q9.length ∧ wr = w9.drewN m) (fun vi _ => q9.length - (intOf vi).toNat)
        case atStart => exact ⟨0, 0, rfl, Nat.zero_le _, rfl⟩
        case round =>
          obtain ⟨k, m, rfl, hk, rfl⟩ := hrel
          by_cases hlt : k < q9.length
          · have hlt' : (k : Int) < q9.length := by omega
            have hlt2 : k < q8.length := by have := HLN.out; omega
            have hlt2' : (k : Int) < q8.length := by omega
            obtain ⟨⟨xa', xcap', hxe, hx⟩, ⟨ya', ycap', hye, hy⟩⟩ := HCX.out _ (HP9.out.drewN m)
            cases hxe
            cases hye
            obtain ⟨g, off, rfl, hx2⟩ := hx (by omega)
            obtain ⟨g2, off2, rfl, hy2⟩ := hy (by omega)
            obtain ⟨x0, x1, x4, x5, x6, x7⟩ := que_get hx2 hlt
            obtain ⟨y0, y1, y4, y5, y6, y7⟩ := que_get hy2 hlt2
            have he : q9[k].1 = q8[k].1 := by
              have h := congrArg (fun l => l[k]?) HEQ.out
              simp only [List.getElem?_map, List.getElem?_eq_getElem hlt, List.getElem?_eq_getElem hlt2, Option.map_some, Option.some.injEq] at h
              exact h
            have hb1 := (HBX.out _ HP9.out).1 _ (List.getElem_mem hlt)
            have hb2 := (HBX.out _ HP9.out).2 _ (List.getElem_mem hlt2)
            rw [← he] at y0 y1 y4 y5 y7 hb2
            generalize q8[k].2.2 = yv at *
            generalize q9[k].2.2 = xv at *
            generalize q9[k].1 = x at *
            have HBE : Hid (∀ wS, (∃ m2, wS = w9.drewN m2) → Calls Tryz.prog 16 #[xv, yv] wS fun e w2 => e = .returned (.bool true) ∧ ∃ m2, w2 = w9.drewN m2) := by
              rintro wS ⟨m2, rfl⟩
              have hx0 : Ext [] w9 (w9.drewN m2) := (Ext.refl [] w9).drewN m2
              refine (boxes21_eq x.rcs hb1.2 (hb1.1.ext hx0) (hb2.ext hx0)).mono ?_
              rintro e w2 ⟨rfl, q, rfl⟩
              exact ⟨rfl, m2 + q, World.drewN_drewN _ _ _⟩
            clear hb1 hb2 he hx hy hx2 hy2
            have HCELLS : Hid (∀ wS, (∃ m2, wS = w9.drewN m2) → PcT g off g2 off2 k x xv yv wS) := by
              rintro wS ⟨m2, rfl⟩
              exact ⟨x0, x1, x4, x5, x6, x7, y0, y1, y4, y5, y6, y7⟩
            clear x0 x1 x4 x5 x6 x7 y0 y1 y4 y5 y6 y7
            go_wp2_with fail
            refine wp_region_chainG [0, 1, 2, 3, 4, 5, 6, 7, 8, 9, 10, 11, 12, 13, 14, 15, 16, 17, 18, 19, 20, 21, 22, 23, 24, 25, 26, 27, 28, 29, 30, 31, 32, 33, 34, 35, 36, 37, 38, 39, 40, 41, 42, 43, 44, 45, 46, 47, 48, 49, 50, 51, 52, 53, 54, 55, 56, 57, 58, 59, 60, 61, 62, 63, 64, 65] (fun c => c == 63) (fun c => false) (T := fun wx => PcT g off g2 off2 k x xv yv wx) (S := fun wx => ∃ m2, wx = w9.drewN m2) (by kernel_rfl) (by kernel_rfl) (by kernel_rfl) ⟨m + 1, rfl⟩ (fun x h => HCELLS.out x h) ?_
            repeat
              refine Exists.intro _ (And.intro rfl (Or.inl (Exists.intro ?_ (And.intro (fun wS hS K hK => ?_) (And.intro ?_ ?_)))))
              rotate_left 1
              · first
                  | (refine if_wanted rfl ?_; clear hS; (try simp only [List.append_eq, List.cons_append, List.nil_append, List.getElem_toArray, List.getElem_cons_zero, List.getElem_cons_succ]); go_big_op; exact hK.out; done)
                  | (obtain ⟨t0, t1, t2, t3, t4, t5, t6, t7, t8, t9, t10, t11⟩ := hS; refine if_wanted rfl ?_; (try simp only [List.append_eq, List.cons_append, List.nil_append, List.getElem_toArray, List.getElem_cons_zero, List.getElem_cons_succ]); go_simp; exact hK.out)
                  | (refine if_unwanted rfl ?_; simp only [Act.put, List.setIfInBounds_toArray, List.set_cons_zero, List.set_cons_succ]; exact hK.out)
              · rfl
            refine ChainG.one rfl rfl rfl (fun wS hS R hR => ?_)
            go_simp
            go_at_call 16
            refine (HBE.out wS hS).mono ?_
            rintro e w7 ⟨rfl, S7⟩
            refine hR.out _ _ rfl (fun wx => PcT g off g2 off2 k x xv yv wx) (fun wx => ∃ m2, wx = w9.drewN m2) S7 (fun x h => HCELLS.out x h) (fun _ h => h) ?_
            clear hR hS S7
            repeat
              refine Exists.intro _ (And.intro rfl (Or.inl (Exists.intro ?_ (And.intro (fun wS hS K hK => ?_) (And.intro ?_ ?_)))))
              rotate_left 1
              · first
                  | (refine if_wanted rfl ?_; clear hS; (try simp only [List.append_eq, List.cons_append, List.nil_append, List.getElem_toArray, List.getElem_cons_zero, List.getElem_cons_succ]); go_big_op; exact hK.out; done)
                  | (obtain ⟨t0, t1, t2, t3, t4, t5, t6, t7, t8, t9, t10, t11⟩ := hS; refine if_wanted rfl ?_; (try simp only [List.append_eq, List.cons_append, List.nil_append, List.getElem_toArray, List.getElem_cons_zero, List.getElem_cons_succ]); go_simp; exact hK.out)
                  | (refine if_unwanted rfl ?_; simp only [Act.put, List.setIfInBounds_toArray, List.set_cons_zero, List.set_cons_succ]; exact hK.out)
              · rfl
            intro wE hE
            have HSE := Lib.hid hE
            clear hE
            obtain ⟨m2, rfl⟩ := HSE.out
            go_wp2_with fail
            go_roundw
            case rel => exact ⟨k + 1, m2, by go_num, by omega, rfl⟩
            case measure => simp [intOf]; omega
          · go_wp2
            go_ret
            exact ⟨rfl, (HP9.out.drewN m).ext⟩
end
end
end Go.Proofs.YtapenolbbofjkaaGreatDoor
