/- DiskDead's walk and its plain law: who is dead does nothing, and tells so. -/
import Derived.Test.YtngbmofocochaaaArgs
namespace Go.Proofs.Ytngbmofocochaaa
open Go.RowKit Go.Maps Go.Sort

theorem done_of_dead {D : Dk} (h : D.dead = true) (e : Ev) : D.done e = (D, 13) := by
  unfold Dk.done
  rw [if_pos (by simp [h])]
  cases D
  simp_all

theorem done_code (D : Dk) (e : Ev) : ((D.done e).2 = 13 ∧ (D.done e).1.dead = true ∧ (D.done e).1.trace = D.trace) ∨ ((D.done e).2 = 0 ∧ (D.done e).1.trace = D.trace ++ [e]) := by
  unfold Dk.done
  split
  · exact .inl ⟨rfl, rfl, rfl⟩
  · split <;> exact .inr ⟨rfl, rfl⟩

/-- An act of the kinds 0 to 4 either is refused, and changes nothing, or is done. -/
theorem play_forms (D : Dk) (x : Act11) (h0 : 0 ≤ x.kind) (h4 : x.kind ≤ 4) :
    (∃ c, D.play x = (D, c) ∧ c ≠ 0 ∧ c ≠ 13) ∨ ∃ e, D.play x = D.done e := by
  unfold Dk.play
  rcases (show x.kind = 0 ∨ x.kind = 1 ∨ x.kind = 2 ∨ x.kind = 3 ∨ x.kind = 4 by omega) with h | h | h | h | h <;> simp only [h] <;> simp
  · unfold Dk.write
    split
    · split
      · exact .inl ⟨4, rfl, by decide, by decide⟩
      · split
        · exact .inl ⟨12, rfl, by decide, by decide⟩
        · exact .inr ⟨_, rfl⟩
    · exact .inl ⟨1, rfl, by decide, by decide⟩
  · unfold Dk.append
    split
    · split
      · exact .inl ⟨12, rfl, by decide, by decide⟩
      · exact .inr ⟨_, rfl⟩
    · exact .inl ⟨10, rfl, by decide, by decide⟩
  · unfold Dk.rename
    split
    · split
      · exact .inr ⟨_, rfl⟩
      · exact .inl ⟨1, rfl, by decide, by decide⟩
    · exact .inl ⟨10, rfl, by decide, by decide⟩
  · unfold Dk.remove
    split
    · exact .inr ⟨_, rfl⟩
    · exact .inl ⟨10, rfl, by decide, by decide⟩
  · exact .inr ⟨_, rfl⟩

theorem play_other (D : Dk) (x : Act11) (h : x.kind < 0 ∨ 4 < x.kind) : (D.play x).2 = 0 ∨ (D.play x).2 = 10 := by
  unfold Dk.play
  rw [if_neg (by omega), if_neg (by omega), if_neg (by omega), if_neg (by omega), if_neg (by omega)]
  split
  · exact .inl rfl
  · split
    · exact .inl rfl
    · split
      · exact .inl rfl
      · split
        · unfold Dk.edit; split
          · exact .inl rfl
          · exact .inr rfl
        · exact .inl rfl
theorem play_neg (D : Dk) (x : Act11) (h : x.kind < 0) : D.play x = (D, 0) := by
  unfold Dk.play
  rw [if_neg (by omega), if_neg (by omega), if_neg (by omega), if_neg (by omega), if_neg (by omega), if_neg (by omega), if_neg (by omega), if_neg (by omega), if_neg (by omega)]

/-- What DiskDead looks at behind an act. -/
theorem dead_facts (D : Dk) (x : Act11) (D2 : Dk) (c : Int) (h : D.play x = (D2, c)) :
    (x.kind = 7 → D2.dead = false ∧ D2.pend.length = 0 ∧ D2.trace.length = D.trace.length) ∧
    (x.kind ≠ 7 → (c = 13 → D2.dead = true) ∧
      (D.dead = true → x.kind ≤ 4 → D2 = D ∧ (0 ≤ x.kind → c ≠ 0)) ∧
      (D.dead = false → 0 ≤ x.kind → x.kind ≤ 4 → (c = 0 ↔ D2.trace.length = D.trace.length + 1))) := by
  refine ⟨fun h7 => ?_, fun h7 => ⟨fun hc => ?_, fun hd h4 => ?_, fun hd h0 h4 => ?_⟩⟩
  · have : D.play x = (D.crash x.n, 0) := by unfold Dk.play; simp [h7]
    rw [this] at h
    cases h
    exact ⟨rfl, rfl, rfl⟩
  · subst hc
    by_cases hk : 0 ≤ x.kind ∧ x.kind ≤ 4
    · rcases play_forms D x hk.1 hk.2 with ⟨c, e, _, h13⟩ | ⟨e, he⟩
      · rw [e] at h; cases h; exact absurd rfl h13
      · rw [he] at h
        rcases done_code D e with ⟨_, h2, _⟩ | ⟨h1, _⟩
        · rw [h] at h2; exact h2
        · rw [h] at h1; cases h1
    · have := play_other D x (by omega)
      rw [h] at this
      rcases this with h1 | h1 <;> cases h1
  · by_cases hk : 0 ≤ x.kind
    · rcases play_forms D x hk h4 with ⟨c', e, hc0, _⟩ | ⟨e, he⟩
      · rw [e] at h; cases h; exact ⟨rfl, fun _ => hc0⟩
      · rw [he, done_of_dead hd] at h; cases h; exact ⟨rfl, fun _ => by decide⟩
    · rw [play_neg D x (by omega)] at h; cases h; exact ⟨rfl, fun h1 => absurd h1 hk⟩
  · rcases play_forms D x h0 h4 with ⟨c', e, hc0, _⟩ | ⟨e, he⟩
    · rw [e] at h; cases h
      constructor
      · intro h1; exact absurd h1 hc0
      · intro h1; omega
    · rw [he] at h
      rcases done_code D e with ⟨h1, _, h2⟩ | ⟨h1, h2⟩ <;> rw [h] at h1 h2 <;> simp only at h1 h2
      · rw [h1, h2]; constructor
        · intro h3; cases h3
        · intro h3; omega
      · rw [h1, h2]; simp

set_option maxRecDepth 100000 in
set_option maxHeartbeats 4000000 in
theorem diskDead_walk (v0 : Value) (l : List Act11) (w : World) (ha : ActsAt w v0 l) :
    Calls Try.prog 5 #[v0] w fun e w2 => e = .returned (.bool true) ∧ Ext [] w w2 := by
  obtain ⟨a0, cap0, rfl, hcells⟩ := acts_view ha
  have HC := Lib.hid hcells
  clear ha hcells
  go_enter Try.func5, Try.ntmps5
  go_wp2_with fail
  refine (awake_any w).mono ?_
  rintro r w1 ⟨rfl, hx1⟩
  have X1 := Lib.hid hx1
  clear hx1
  go_wp2_with fail
  refine (new_any w1).mono ?_
  rintro r w2 ⟨p, F0, rfl, hd, hx, hk⟩
  have L0 : Hid (Lives w w2 p F0 Dk.new) := ⟨hd, X1.out.trans hx (by simp), fun x hh => by have := hk x hh; have := X1.out.size; omega⟩
  clear hd hx hk
  go_wp2_with fail
  go_loopw [4] (fun i wr => ∃ k : Nat, i = .int .i64 k ∧ k ≤ 100 ∧ ∃ F D, Lives w wr p F D ∧ D.Ok (1300 * k)) (fun i _ => 100 - (intOf i).toNat)
  case atStart => exact ⟨0, rfl, by omega, F0, Dk.new, L0.out, ok_new⟩
  case round =>
    obtain ⟨k, rfl, hk, F, D, hL, hO⟩ := hrel
    have HL := Lib.hid hL
    have HO := Lib.hid hO
    clear hL hO X1
    by_cases hk1 : k < l.length
    · by_cases hk2 : k < 100
      · obtain ⟨hwf, hll, b, off, rfl, c0, c1, c2, c3⟩ := HC.out wr HL.out.ext k hk1
        unfold maxLen at hll
        generalize l[k] = x at *
        have HWF := Lib.hid hwf
        clear hwf
        have hbx : (wr.alloc (actBox x)).heap[wr.heap.size]? = some (actBox x) := heap_alloc_new _ _
        have HB0 := Lib.hid hbx
        have L1 : Hid (Lives w (wr.alloc (actBox x)) p F D) := HL.out.more ((Ext.refl [] wr).alloc _)
        have HN : Hid (wr.heap.size ∉ F) := fun h => Nat.lt_irrefl _ (HL.out.disk.lt _ h)
        clear hbx
        go_wp2_with fail
        refine (large_any x _ HWF.out.a HWF.out.b).mono ?_
        rintro r w3 ⟨rfl, hx3⟩
        have L3 := Lib.hid (L1.out.more hx3)
        have HB3 := Lib.hid (hx3.heap HB0.out (by simp))
        have X3 := Lib.hid hx3
        clear hx3 c0 c1 c2 c3 HB0
        by_cases hlg : x.large = true
        · go_wp2
          go_ret
          exact ⟨rfl, L3.out.ext⟩
        · have hlg : x.large = false := by simpa using hlg
          generalize hN : wr.heap.size = N at *
          have HSM : Hid D.Small := HO.out.small (by omega)
          go_wp2_with fail
          refine (dead_any p F D _ L3.out.disk).mono ?_
          rintro r wz ⟨rfl, rfl⟩
          go_wp2_with fail
          refine (trace_any p F D _ L3.out.disk HSM.out.trace).mono ?_
          rintro r w4 ⟨vt, rfl, ht4, hx4, hv4⟩
          obtain ⟨at4, cp4, rfl⟩ : ∃ a c, vt = .slice a D.trace.length c := by
            rcases ht4.2 with ⟨rfl, h0⟩ | ⟨g, cap, cur, rfl, _⟩
            · exact ⟨none, 0, by rw [h0]⟩
            · exact ⟨_, _, rfl⟩
          have L4 := Lib.hid (L3.out.more hx4)
          have HB4 := Lib.hid (hx4.heap HB3.out (by simp))
          clear ht4 hx4 hv4 HB3 L3
          go_wp2_with fail
          refine (size_any p F D _ L4.out.disk (by have := HSM.out.bytes; omega)).mono ?_
          rintro r w5 ⟨rfl, hx5⟩
          have L5 := Lib.hid (L4.out.more hx5)
          have HB5 := Lib.hid (hx5.heap HB4.out (by simp))
          clear hx5 L4 HB4
          go_wp2_with fail
          refine (pending_any p F D _ L5.out.disk).mono ?_
          rintro r wz ⟨rfl, rfl⟩
          have b0 : w5.cell? ⟨N, 0, none⟩ = some (.int .i64 x.kind) := by rw [box_cell HB5.out]; rfl
          have b1 : w5.cell? ⟨N, 1, none⟩ = some (.int .i64 x.n) := by rw [box_cell HB5.out]; rfl
          have b2 : w5.cell? ⟨N, 2, none⟩ = some (.string ⟨x.a.toArray⟩) := by rw [box_cell HB5.out]; rfl
          have b3 : w5.cell? ⟨N, 3, none⟩ = some (.string ⟨x.b.toArray⟩) := by rw [box_cell HB5.out]; rfl
          go_wp2_with fail
          refine (play_any p F D x _ L5.out.disk (HO.out.playFit (by omega) hlg)).mono ?_
          clear b0 b1 b2 b3
          have HF := Lib.hid (dead_facts D x (D.play x).1 (D.play x).2 rfl)
          have HO6 : Hid ((D.play x).1.Ok (1300 * (k + 1))) := HO.out.play hlg HWF.out.n2
          generalize hpl : D.play x = pl at *
          obtain ⟨D2, c⟩ := pl
          clear hpl
          rintro r w6 ⟨rfl, F2, hd6, hm6⟩
          have L6 := Lib.hid (L5.out.step hm6 hd6)
          have HB6 := Lib.hid (hm6.ext.heap HB5.out HN.out)
          have b0 : w6.cell? ⟨N, 0, none⟩ = some (.int .i64 x.kind) := by rw [box_cell HB6.out]; rfl
          clear hd6 hm6 L5 HB5 hlg
          simp only at HF HO6 L6 ⊢
          have HSM2 : Hid D2.Small := HO6.out.small (by omega)
          by_cases h7 : x.kind = 7
          · obtain ⟨f1, f2, f3⟩ := HF.out.1 h7
            have k7 : (x.kind == 7) = true := by simp [h7]
            have q1 : ((D2.pend.length : Int) != 0) = false := bne_eq_false_iff_eq.2 (by omega)
            have q2 : ((D2.trace.length : Int) != (D.trace.length : Int)) = false := bne_eq_false_iff_eq.2 (by omega)
            clear f2 f3 h7
            go_wp2_with (first | (go_at_call 18; refine (dead_l ‹Hid (Lives w _ p F2 D2)›).mono ?_; rintro r wz ⟨rfl, rfl⟩) | (go_at_call 15; refine (pending_l ‹Hid (Lives w _ p F2 D2)›).mono ?_; rintro r wz ⟨rfl, rfl⟩) | (go_at_call 12; refine (trace_l ‹Hid (Lives w _ p F2 D2)› HSM2).mono ?_; rintro r wz ⟨atz, cpz, rfl, LZ, XZ⟩; have bz := XZ.out.cell (p := ⟨N, 0, none⟩) (v := .int .i64 x.kind) (by assumption) (by simp)) | (go_at_call 19; refine (size_l ‹Hid (Lives w _ p F2 D2)› HSM2).mono ?_; rintro r wz ⟨rfl, LZ, XZ⟩; have bz := XZ.out.cell (p := ⟨N, 0, none⟩) (v := .int .i64 x.kind) (by assumption) (by simp)))
            all_goals
              go_roundw
              case rel => exact ⟨k + 1, by go_num, by omega, F2, D2, ‹Hid (Lives w _ p F2 D2)›.out, HO6.out⟩
              case measure => simp [intOf]; omega
          · have k7 : (x.kind == 7) = false := beq_eq_false_iff_ne.2 h7
            obtain ⟨g1, g2, g3⟩ := HF.out.2 h7
            have G1 := Lib.hid g1
            have G2 := Lib.hid g2
            have G3 := Lib.hid g3
            clear g1 g2 g3 h7 HF
            have hcd : (c == 13) = true ∧ D2.dead = true ∨ (c == 13) = false := by
              by_cases h13 : c = 13
              · exact .inl ⟨by simp [h13], G1.out h13⟩
              · exact .inr (beq_eq_false_iff_ne.2 h13)
            by_cases hdd : D.dead = true
            · by_cases h4 : x.kind ≤ 4
              · obtain ⟨rfl, g2⟩ := G2.out hdd h4
                have hc0 : (c == 0) = false ∨ x.kind < 0 := by
                  by_cases h0 : 0 ≤ x.kind
                  · exact .inl (beq_eq_false_iff_ne.2 (g2 h0))
                  · exact .inr (by omega)
                clear g2 G1 G2 G3
                rcases hcd with ⟨h13, _⟩ | h13
                all_goals
                  rcases hc0 with hc0 | hc0
                  all_goals
                    go_wp2_with (first | (go_at_call 18; refine (dead_l ‹Hid (Lives w _ p F2 D2)›).mono ?_; rintro r wz ⟨rfl, rfl⟩) | (go_at_call 15; refine (pending_l ‹Hid (Lives w _ p F2 D2)›).mono ?_; rintro r wz ⟨rfl, rfl⟩) | (go_at_call 12; refine (trace_l ‹Hid (Lives w _ p F2 D2)› HSM2).mono ?_; rintro r wz ⟨atz, cpz, rfl, LZ, XZ⟩; have bz := XZ.out.cell (p := ⟨N, 0, none⟩) (v := .int .i64 x.kind) (by assumption) (by simp)) | (go_at_call 19; refine (size_l ‹Hid (Lives w _ p F2 D2)› HSM2).mono ?_; rintro r wz ⟨rfl, LZ, XZ⟩; have bz := XZ.out.cell (p := ⟨N, 0, none⟩) (v := .int .i64 x.kind) (by assumption) (by simp)))
                    all_goals
                      go_roundw
                      case rel => exact ⟨k + 1, by go_num, by omega, F2, D2, ‹Hid (Lives w _ p F2 D2)›.out, HO6.out⟩
                      case measure => simp [intOf]; omega
              · clear G1 G2 G3
                rcases hcd with ⟨h13, h13d⟩ | h13
                all_goals
                  go_wp2_with (first | (go_at_call 18; refine (dead_l ‹Hid (Lives w _ p F2 D2)›).mono ?_; rintro r wz ⟨rfl, rfl⟩) | (go_at_call 15; refine (pending_l ‹Hid (Lives w _ p F2 D2)›).mono ?_; rintro r wz ⟨rfl, rfl⟩) | (go_at_call 12; refine (trace_l ‹Hid (Lives w _ p F2 D2)› HSM2).mono ?_; rintro r wz ⟨atz, cpz, rfl, LZ, XZ⟩; have bz := XZ.out.cell (p := ⟨N, 0, none⟩) (v := .int .i64 x.kind) (by assumption) (by simp)) | (go_at_call 19; refine (size_l ‹Hid (Lives w _ p F2 D2)› HSM2).mono ?_; rintro r wz ⟨rfl, LZ, XZ⟩; have bz := XZ.out.cell (p := ⟨N, 0, none⟩) (v := .int .i64 x.kind) (by assumption) (by simp)))
                  all_goals
                    go_roundw
                    case rel => exact ⟨k + 1, by go_num, by omega, F2, D2, ‹Hid (Lives w _ p F2 D2)›.out, HO6.out⟩
                    case measure => simp [intOf]; omega
            · have hdd : D.dead = false := by simpa using hdd
              by_cases h04 : 0 ≤ x.kind ∧ x.kind ≤ 4
              · obtain ⟨h0, h4⟩ := h04
                have g3 := G3.out hdd h0 h4
                have htb : (D.trace.length : Int) < 1000000000000 := by have := HSM.out.trace; omega
                have hb : (c == 0) = true ∧ ((D2.trace.length : Int) == (D.trace.length : Int) + 1) = true ∨ (c == 0) = false ∧ ((D2.trace.length : Int) == (D.trace.length : Int) + 1) = false := by
                  by_cases hc0 : c = 0
                  · exact .inl ⟨by simp [hc0], beq_iff_eq.2 (by have := g3.1 hc0; omega)⟩
                  · exact .inr ⟨beq_eq_false_iff_ne.2 hc0, beq_eq_false_iff_ne.2 (fun h => hc0 (g3.2 (by omega)))⟩
                clear g3 G1 G2 G3
                rcases hcd with ⟨h13, h13d⟩ | h13
                all_goals
                  rcases hb with ⟨hb1, hb2⟩ | ⟨hb1, hb2⟩
                  all_goals
                    go_wp2_with (first | (go_at_call 18; refine (dead_l ‹Hid (Lives w _ p F2 D2)›).mono ?_; rintro r wz ⟨rfl, rfl⟩) | (go_at_call 15; refine (pending_l ‹Hid (Lives w _ p F2 D2)›).mono ?_; rintro r wz ⟨rfl, rfl⟩) | (go_at_call 12; refine (trace_l ‹Hid (Lives w _ p F2 D2)› HSM2).mono ?_; rintro r wz ⟨atz, cpz, rfl, LZ, XZ⟩; have bz := XZ.out.cell (p := ⟨N, 0, none⟩) (v := .int .i64 x.kind) (by assumption) (by simp)) | (go_at_call 19; refine (size_l ‹Hid (Lives w _ p F2 D2)› HSM2).mono ?_; rintro r wz ⟨rfl, LZ, XZ⟩; have bz := XZ.out.cell (p := ⟨N, 0, none⟩) (v := .int .i64 x.kind) (by assumption) (by simp)))
                    all_goals
                      go_roundw
                      case rel => exact ⟨k + 1, by go_num, by omega, F2, D2, ‹Hid (Lives w _ p F2 D2)›.out, HO6.out⟩
                      case measure => simp [intOf]; omega
              · have h04' : x.kind < 0 ∨ 4 < x.kind := by omega
                clear G1 G2 G3 h04
                rcases hcd with ⟨h13, h13d⟩ | h13
                all_goals
                  rcases h04' with h04' | h04'
                  all_goals
                    go_wp2_with (first | (go_at_call 18; refine (dead_l ‹Hid (Lives w _ p F2 D2)›).mono ?_; rintro r wz ⟨rfl, rfl⟩) | (go_at_call 15; refine (pending_l ‹Hid (Lives w _ p F2 D2)›).mono ?_; rintro r wz ⟨rfl, rfl⟩) | (go_at_call 12; refine (trace_l ‹Hid (Lives w _ p F2 D2)› HSM2).mono ?_; rintro r wz ⟨atz, cpz, rfl, LZ, XZ⟩; have bz := XZ.out.cell (p := ⟨N, 0, none⟩) (v := .int .i64 x.kind) (by assumption) (by simp)) | (go_at_call 19; refine (size_l ‹Hid (Lives w _ p F2 D2)› HSM2).mono ?_; rintro r wz ⟨rfl, LZ, XZ⟩; have bz := XZ.out.cell (p := ⟨N, 0, none⟩) (v := .int .i64 x.kind) (by assumption) (by simp)))
                    all_goals
                      go_roundw
                      case rel => exact ⟨k + 1, by go_num, by omega, F2, D2, ‹Hid (Lives w _ p F2 D2)›.out, HO6.out⟩
                      case measure => simp [intOf]; omega
      · have hk100 : k = 100 := by omega
        subst hk100
        go_wp2_with fail
        go_ret
        exact ⟨rfl, HL.out.ext⟩
    · go_wp2_with fail
      go_ret
      exact ⟨rfl, HL.out.ext⟩
end Go.Proofs.Ytngbmofocochaaa
