/- maildir: number, Parse. Conditions: the lengths fit. -/
import Derived.Test.YtcffickkipicbaaGreatDoorMd1
namespace Go.Proofs.YtcffickkipicbaaGreatDoor
open Go.RowKit Go.Sort

def parsesB (s : Bs) : Bool := match Lib.parseUintB 64 s with | .ok _ => true | _ => false
theorem parseUint_any (s : Bs) (w : World) (E : Env w) (hs : s.length ≤ 1000000) :
    Calls Tryz.prog 78 #[.string ⟨s.toArray⟩, .int .i64 10, .int .i64 64] w fun e w2 => ∃ (n : Nat) (ev : Value), e = .returned (.tuple #[.int .u64 n, ev]) ∧ n = (match Lib.parseUintB 64 s with | .ok u => u | .syntax => 0 | .range => 18446744073709551615) ∧ Ext [] w w2 ∧ (parsesB s = true → Grown w w2) := by
  have hz : (ByteArray.mk s.toArray).size = s.length := rfl
  rcases hp : Lib.parseUintB 64 s with u | _ | _
  · refine (Tryz.strconv_ParseUint_10_at64_ok ⟨s.toArray⟩ (by rw [hz]; omega) u hp w).mono ?_
    rintro e w2 ⟨rfl, h⟩
    have hg : Grown w w2 := by
      rcases h with rfl | rfl
      · exact Grown.refl _
      · exact Grown.bytes _ _ _
    exact ⟨u, _, rfl, rfl, hg.ext, fun _ => hg⟩
  · obtain ⟨ev, h1, h2⟩ := E.syn
    refine (Tryz.strconv_ParseUint_10_at64_syntax ⟨s.toArray⟩ (by rw [hz]; omega) hp ev w h1 h2).mono ?_
    rintro e w2 ⟨N, rfl, _, _, hb⟩
    exact ⟨0, _, rfl, rfl, Ext.of_below hb, fun h => by simp [parsesB, hp] at h⟩
  · obtain ⟨ev, h1, h2⟩ := E.ran
    refine (Tryz.strconv_ParseUint_10_at64_range ⟨s.toArray⟩ (by rw [hz]; omega) hp ev w h1 h2).mono ?_
    rintro e w2 ⟨N, rfl, _, _, hb⟩
    exact ⟨_, _, rfl, rfl, Ext.of_below hb, fun h => by simp [parsesB, hp] at h⟩
theorem iter_grown (w : World) (s : ByteArray) (pos : Nat) : Grown w (w.iter s pos) := (Grown.refl w).alloc _
theorem numRd_not {s : Bs} {k : Nat} (h : k < s.length) (hd : digB s[k] = false) : numRd s = 0 := by
  unfold numRd
  rw [if_neg]
  intro h2
  have := List.all_eq_true.1 h2 s[k] (List.getElem_mem h)
  rw [hd] at this
  cases this
set_option maxRecDepth 100000 in
set_option maxHeartbeats 1000000 in
theorem number_any (s : Bs) (w : World) (E : Env w) (hs : s.length ≤ 1000000) :
    Calls Tryz.prog 46 #[.string ⟨s.toArray⟩] w fun e w2 => e = .returned (.int .u64 (numRd s)) ∧ Ext [] w w2 ∧ (parsesB s = true → Grown w w2) := by
  have HP := Lib.hid (parseUint_any s (w.iter ⟨s.toArray⟩ s.length) (E.ext (iter_grown w _ _).ext) hs)
  have hz : (ByteArray.mk s.toArray).size = s.length := rfl
  have HZ := Lib.hid hz
  clear hz E
  go_enter Tryz.func46, Tryz.ntmps46
  go_wp2_with fail
  go_loopw [] (fun wr => ∃ pos : Nat, pos ≤ s.length ∧ wr = w.iter ⟨s.toArray⟩ pos ∧ (s.take pos).all digB = true) (fun wr => s.length - wr.iterPos w.heap.size)
  case atStart => exact ⟨0, Nat.zero_le _, rfl, rfl⟩
  case round =>
    obtain ⟨pos, hpos, rfl, hall⟩ := hrel
    have HALL := Lib.hid hall
    clear hall
    by_cases hlt : pos < s.length
    · have hp : pos < (ByteArray.mk s.toArray).size := hlt
      by_cases ha : s[pos].toNat < 128
      · have hnx : ∀ ty, (Instr.next (.pointer (some ⟨w.heap.size, 0, none⟩)) true ty).run Tryz.prog (w.iter ⟨s.toArray⟩ pos) = .ok (.tuple #[.bool true, .int .i64 pos, .int .i32 (s[pos].toNat : Int)]) (w.iter ⟨s.toArray⟩ (pos + 1)) := fun ty => run_next_ascii w ⟨s.toArray⟩ pos ty hp ha
        have HST : Hid (s.take (pos + 1) = s.take pos ++ [s[pos]]) := List.take_succ_eq_append_getElem hlt
        have HNO := Lib.hid (@numRd_not s pos hlt)
        generalize s[pos] = c at *
        by_cases hd : 48 ≤ c.toNat ∧ c.toNat ≤ 57
        · have HD : Hid (digB c = true) := by unfold Hid digB; simp [hd]
          have h1 : (48 : Int) ≤ c.toNat := by omega
          have h2 : (c.toNat : Int) ≤ 57 := by omega
          clear hd ha hp
          go_wp2
          go_roundw
          case rel => exact ⟨pos + 1, by omega, rfl, by rw [HST.out, List.all_append, HALL.out]; simp [HD.out]⟩
          case measure => simp; omega
        · have HD : Hid (numRd s = 0) := HNO.out (by unfold digB; simp; omega)
          by_cases h1 : c.toNat < 48
          · have h1' : (c.toNat : Int) < 48 := by omega
            clear hd ha hp
            go_wp2
            go_ret
            rw [HD.out]
            exact ⟨rfl, (iter_grown w _ _).ext, fun _ => iter_grown w _ _⟩
          · have h1' : (48 : Int) ≤ c.toNat := by omega
            have h2 : (57 : Int) < c.toNat := by omega
            clear hd ha hp
            go_wp2
            go_ret
            rw [HD.out]
            exact ⟨rfl, (iter_grown w _ _).ext, fun _ => iter_grown w _ _⟩
      · have HD : Hid (numRd s = 0) := numRd_not hlt (by unfold digB; simp; omega)
        have hnx := fun ty => run_next_any (P := Tryz.prog) w ⟨s.toArray⟩ pos ty hp
        have hd1 := (decode_high ⟨s.toArray⟩ pos hp (by have : 128 ≤ s[pos].toNat := by omega
                                                        exact this)).1
        generalize Utf8.decode ⟨s.toArray⟩ pos = d at *
        obtain ⟨r, k⟩ := d
        dsimp only at *
        have h1 : (48 : Int) ≤ r := by omega
        have h2 : (57 : Int) < r := by omega
        clear ha hd1 hp
        go_wp2
        go_ret
        rw [HD.out]
        exact ⟨rfl, (iter_grown w _ _).ext, fun _ => iter_grown w _ _⟩
    · obtain rfl : pos = s.length := by omega
      have hnx := fun ty => run_next_end (P := Tryz.prog) w ⟨s.toArray⟩ s.length ty (by have := HZ.out; omega)
      have HV : Hid (numRd s = (match Lib.parseUintB 64 s with | .ok u => u | .syntax => 0 | .range => 18446744073709551615)) := by
        have := HALL.out
        rw [List.take_length] at this
        unfold numRd
        rw [if_pos this]
        exact Eq.refl _
      go_wp2_with fail
      refine HP.out.mono ?_
      rintro e w2 ⟨n, ev, rfl, hn, hx, hg⟩
      have HN := Lib.hid hn
      have HX := Lib.hid hx
      have HG := Lib.hid hg
      clear hn hx hg hnx
      go_wp2
      go_ret
      rw [HV.out, ← HN.out]
      exact ⟨rfl, (iter_grown w _ _).ext.trans HX.out (by simp), fun h => (iter_grown w _ _).trans (HG.out h)⟩
end Go.Proofs.YtcffickkipicbaaGreatDoor
