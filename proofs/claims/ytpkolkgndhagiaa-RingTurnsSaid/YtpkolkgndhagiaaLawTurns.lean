/- RingTurns: its walk and its plain law: begun and ended by turns, a domain's epochs are one more each time. -/
import Derived.Test.YtpkolkgndhagiaaRingP
import Derived.Test.YtpkolkgndhagiaaAw14
namespace Go.Proofs.Ytpkolkgndhagiaa
open Go.RowKit Go.Maps

/-- A ring's disk that nothing has broken, with room as at first. -/
structure Alive (D : Dk) (l : List RRow) : Prop where
  rd : RD D l []
  dead : D.dead = false
  fuse : D.fuse < 0
  quota : D.quota = 1048576
  trace : D.trace.length ≤ 10 + 2 * l.length
theorem Alive.set {D : Dk} {l : List RRow} (h : Alive D l) (M : Mp RSt) (x : Bs) (s : RSt) (hs : rowOk (x, s)) (hne : s ≠ ringState M x) (hl : l.length ≤ 3000) :
    ∃ D2, ringSet D M x s = (D2, M.put x s, 0) ∧ Alive D2 (l ++ [(x, s)]) := by
  have h1 := rowsB_length l (fun p hp => h.rd.ok p (by simp [hp]))
  have h2 := ringRow_length_le x s
  have h3 := hs.1
  rcases h.rd.set M x s hs hne with ⟨_, _, hq⟩ | ⟨_, _, _, _, hd, _⟩ | ⟨e1, e2, _, e4, e5, e6, _, e8⟩
  · rw [h.quota] at hq
    dsimp only at h3
    omega
  · rw [h.dead] at hd
    have := h.fuse
    rcases hd with hd | hd
    · cases hd
    · omega
  · refine ⟨(ringSet D M x s).1, Prod.ext rfl e1, e8, e2, by rw [e6 h.fuse]; exact h.fuse, by rw [e4]; exact h.quota, ?_⟩
    rw [e5]
    have := h.trace
    simp
    omega
theorem Alive.roomy {D : Dk} {l : List RRow} (h : Alive D l) (hl : l.length ≤ 3000) : D.Roomy 1000000 := h.rd.roomy (by have := h.trace; omega) (by simp; omega)
theorem aw14a_alive : Alive aw14a [] := ⟨⟨rfl, rfl, rfl, by simp, by decide, by simp⟩, rfl, by decide, rfl, by decide⟩

def turnM (x : Bs) (i : Nat) : Mp RSt := if i = 1 then [] else [(x, ⟨i, 0⟩)]
theorem turnM_state (x : Bs) (i : Nat) : ringState (turnM x i) x = ⟨i, 0⟩ := by
  unfold turnM ringState
  split
  · rename_i h; subst h; rfl
  · simp [Mp.get]
theorem turnM_put (x : Bs) (i : Nat) (s : RSt) : (turnM x i).put x s = [(x, s)] := by
  unfold turnM
  split
  · rfl
  · simp [Mp.put, Mp.del, Mp.ins]
theorem one_state (x : Bs) (s : RSt) : ringState [(x, s)] x = s := by simp [ringState, Mp.get]
theorem one_put (x : Bs) (a s : RSt) : Mp.put [(x, a)] x s = [(x, s)] := by simp [Mp.put, Mp.del, Mp.ins]
theorem turn_step {D : Dk} {l : List RRow} (x : Bs) (i : Nat) (h : Alive D l) (hx : x.length ≤ 255) (hi : i ≤ 60) (hl : l.length ≤ 1000) :
    ringEnd D (turnM x i) x = (D, turnM x i, 10) ∧ ∃ D2 D3, ringBegin D (turnM x i) x = (D2, [(x, ⟨i + 1, i⟩)], i + 1, 0) ∧ Alive D2 (l ++ [(x, ⟨i + 1, i⟩)]) ∧
      (1 ≤ i → ringEnd D2 [(x, ⟨i + 1, i⟩)] x = (D3, turnM x (i + 1), 0) ∧ Alive D3 (l ++ [(x, ⟨i + 1, i⟩)] ++ [(x, ⟨i + 1, 0⟩)])) := by
  have hs := turnM_state x i
  obtain ⟨D2, e2, a2⟩ := h.set (turnM x i) x ⟨i + 1, i⟩ ⟨hx, by simp; omega, by simp; omega⟩ (by rw [hs]; simp) (by omega)
  obtain ⟨D3, e3⟩ : ∃ D3, 1 ≤ i → ringSet D2 [(x, ⟨i + 1, i⟩)] x ⟨i + 1, 0⟩ = (D3, Mp.put [(x, ⟨i + 1, i⟩)] x ⟨i + 1, 0⟩, 0) ∧ Alive D3 (l ++ [(x, ⟨i + 1, i⟩)] ++ [(x, ⟨i + 1, 0⟩)]) := by
    by_cases h1 : 1 ≤ i
    · obtain ⟨D3, e3, a3⟩ := a2.set [(x, ⟨i + 1, i⟩)] x ⟨i + 1, 0⟩ ⟨hx, by simp; omega, by simp⟩ (by rw [one_state]; simp; omega) (by simp; omega)
      exact ⟨D3, fun _ => ⟨e3, a3⟩⟩
    · exact ⟨D2, fun h => absurd h h1⟩
  refine ⟨?_, D2, D3, ?_, a2, fun h1 => ⟨?_, (e3 h1).2⟩⟩
  · unfold ringEnd
    rw [if_neg (by omega), hs, if_pos rfl]
  · unfold ringBegin
    rw [if_neg (by omega), hs, if_neg (by simp), if_neg (by simp; omega)]
    dsimp only
    rw [e2, if_neg (by simp), turnM_put]
  · unfold ringEnd
    rw [if_neg (by omega), one_state, if_neg (by simp; omega)]
    dsimp only
    rw [(e3 h1).1, one_put]
    simp [turnM]
    omega
theorem turnM_ok (x : Bs) (i : Nat) (hi : i ≤ 1000) : ringOk (turnM x i) := by
  unfold turnM
  split
  · exact ⟨by simp, by simp⟩
  · exact ⟨by simp, by simp; omega⟩
theorem turnM_other (x : Bs) (i : Nat) : ringState (turnM x i) (x ++ [120]) = ⟨1, 0⟩ := by
  unfold turnM ringState
  split
  · rfl
  · have : (x == x ++ [120]) = false := by simp
    simp [Mp.get]

theorem ringLiveI {w0 w : World} {F0 : List Nat} {L : List Res} {p d : Nat} {M : Mp RSt} (x : Bs) (z : Int) (n : Nat) (hz : z = n) (S : Sp w0 F0 w (ringR p d M :: L)) (hx : x.length ≤ maxLen) (hn : n < 18446744073709551616) :
    Calls Try.prog 36 #[.pointer (some ⟨p, 0, none⟩), .string ⟨x.toArray⟩, .int .u64 z] w fun e w2 => e = .returned (.bool (decide (0 < n) && (decide (n = (ringState M x).now) || decide (n = (ringState M x).old)))) ∧ Sp w0 F0 w2 (ringR p d M :: L) := by
  subst hz
  exact ringLiveS x n S hx hn
set_option maxRecDepth 100000 in
set_option maxHeartbeats 4000000 in
theorem ringTurns_walk (x : Bs) (n : Int) (W : World) (hx : x.length ≤ maxLen) (hn : 0 ≤ n ∧ n ≤ 255) :
    Calls Try.prog 9 #[.string ⟨x.toArray⟩, .int .u8 n] W fun e w2 => e = .returned (.bool true) ∧ Ext [] W w2 := by
  have HS0 := Lib.hid (Sp.nil W [])
  unfold maxLen at hx
  have hx' : (x.length : Int) ≤ 9223372036854775807 := by omega
  obtain ⟨hn1, hn2⟩ := hn
  go_enter Try.func9, Try.ntmps9
  go_wp2_with fail
  refine (awake14S HS0.out).mono ?_
  rintro e w1 ⟨rfl, S⟩
  have HS1 := Lib.hid S
  clear S
  by_cases h1 : 255 < x.length
  · have h1' : (255 : Int) < x.length := by omega
    go_wp2
    go_ret
    exact ⟨rfl, HS1.out.ext⟩
  · have h2 : (x.length : Int) ≤ 255 := by omega
    have HX : Hid (x.length ≤ 255) := by unfold Hid; omega
    clear h1 hx hx'
    go_wp2_with fail
    refine (newS HS1.out).mono ?_
    rintro e w2 ⟨d, rfl, S⟩
    have HS2 := Lib.hid S
    clear S HS1
    go_wp2_with fail
    refine (ringOpenS 100 Dk.new HS2.out aw14_rn (by decide)).mono ?_
    rw [aw14_1]
    rintro e w3 ⟨p, rfl, S⟩
    have HS3 := Lib.hid S
    clear S HS2
    dsimp only
    go_wp2_with fail
    obtain ⟨k, hk⟩ : ∃ k : Nat, n % 61 = k := ⟨(n % 61).toNat, by omega⟩
    have hk60 : k ≤ 60 := by omega
    go_loopw [7] (fun v wr => ∃ (i : Nat) (D : Dk) (l : List RRow), v = .int .u64 i ∧ 1 ≤ i ∧ i ≤ 61 ∧ Alive D l ∧ l.length ≤ 2 * i ∧ Sp W [] wr (ringR p d (turnM x i) :: diskR d D :: [])) (fun v _ => 61 - (intOf v).toNat)
    case atStart => exact ⟨1, aw14a, [], rfl, by omega, by omega, aw14a_alive, by simp, HS3.out⟩
    case round =>
      obtain ⟨i, D, l, rfl, hi1, hi2, hA, hl, S4⟩ := hrel
      have HA := Lib.hid hA
      have HL := Lib.hid hl
      have HS4 := Lib.hid S4
      clear hA hl S4 HS3
      by_cases hik : i ≤ k
      · have hi60 : i ≤ 60 := by omega
        obtain ⟨E1, D2, D3, E2, A2, E3⟩ := turn_step x i HA.out HX.out hi60 (by have := HL.out; omega)
        obtain ⟨E3, A3⟩ := E3 hi1
        have HE1 := Lib.hid E1
        have HE2 := Lib.hid E2
        have HE3 := Lib.hid E3
        have HA2 := Lib.hid A2
        have HA3 := Lib.hid A3
        have HI : Hid (1 ≤ i ∧ i ≤ 60) := ⟨hi1, hi60⟩
        have hi0 : ¬ (i : Int) = 0 := by omega
        clear E1 E2 E3 A2 A3
        go_wp2_with fail
        refine (ringStateS x HS4.out (by have := HX.out; unfold maxLen; omega)).mono ?_
        rw [turnM_state]
        rintro e w5 ⟨rfl, S⟩
        have HS5 := Lib.hid S
        clear S HS4
        dsimp only
        go_wp2_with fail
        refine (ringEndS x 1000000 D HS5.out (by have := HX.out; omega) (turnM_ok x i (by omega)) (HA.out.roomy (by have := HL.out; omega)) (by decide)).mono ?_
        rw [HE1.out]
        rintro e w6 ⟨rfl, S⟩
        have HS6 := Lib.hid S
        clear S HS5
        dsimp only
        go_wp2_with fail
        refine (ringBeginS x 1000000 D HS6.out (by have := HX.out; omega) (turnM_ok x i (by omega)) (HA.out.roomy (by have := HL.out; omega)) (by decide)).mono ?_
        rw [HE2.out]
        rintro e w7 ⟨rfl, S⟩
        have HS7 := Lib.hid S
        clear S HS6
        dsimp only
        go_wp2_with fail
        refine (ringLiveS x i HS7.out (by have := HX.out; unfold maxLen; omega) (by omega)).mono ?_
        rw [one_state]
        rintro e w8 ⟨rfl, S⟩
        have HS8 := Lib.hid S
        clear S HS7
        rw [show (decide (0 < i) && (decide (i = (⟨i + 1, i⟩ : RSt).now) || decide (i = (⟨i + 1, i⟩ : RSt).old))) = true by simp; omega]
        go_wp2_with fail
        refine (ringLiveS x (i + 1) HS8.out (by have := HX.out; unfold maxLen; omega) (by omega)).mono ?_
        rw [one_state]
        rintro e w9 ⟨rfl, S⟩
        have HS9 := Lib.hid S
        clear S HS8
        rw [show (decide (0 < i + 1) && (decide (i + 1 = (⟨i + 1, i⟩ : RSt).now) || decide (i + 1 = (⟨i + 1, i⟩ : RSt).old))) = true by simp]
        go_wp2_with fail
        refine (ringLiveS x (i + 2) HS9.out (by have := HX.out; unfold maxLen; omega) (by omega)).mono ?_
        rw [one_state]
        rintro e w10 ⟨rfl, S⟩
        have HS10 := Lib.hid S
        clear S HS9
        rw [show (decide (0 < i + 2) && (decide (i + 2 = (⟨i + 1, i⟩ : RSt).now) || decide (i + 2 = (⟨i + 1, i⟩ : RSt).old))) = false by simp]
        have HEnd : Hid (∀ {w0 w : World} {F0 : List Nat} {L : List Res}, Sp w0 F0 w (ringR p d [(x, ⟨i + 1, i⟩)] :: diskR d D2 :: L) → Calls Try.prog 34 #[.pointer (some ⟨p, 0, none⟩), .string ⟨x.toArray⟩] w fun e w2 => e = .returned (.int .i64 0) ∧ Sp w0 F0 w2 (ringR p d (turnM x (i + 1)) :: diskR d D3 :: L)) := fun S => by
          have := ringEndS x 1000000 D2 S (by have := HX.out; omega) (⟨by simp, by simp; omega⟩) (HA2.out.roomy (by have := HL.out; simp; omega)) (by decide)
          rw [HE3.out] at this
          exact this
        by_cases h1i : 1 < i
        · have h1i' : (1 : Int) < i := by omega
          go_wp2_with fail
          refine (ringLiveI x _ (i - 1) (by omega) HS10.out (by have := HX.out; unfold maxLen; omega) (by omega)).mono ?_
          rw [one_state, show (decide (0 < i - 1) && (decide (i - 1 = (⟨i + 1, i⟩ : RSt).now) || decide (i - 1 = (⟨i + 1, i⟩ : RSt).old))) = false by simp; omega]
          rintro e w11 ⟨rfl, S⟩
          have HS11 := Lib.hid S
          clear S
          go_wp2_with fail
          refine (HEnd.out HS11.out).mono ?_
          rintro e w12 ⟨rfl, S⟩
          have HS12 := Lib.hid S
          clear S HS11
          go_wp2_with fail
          refine (ringLiveS x i HS12.out (by have := HX.out; unfold maxLen; omega) (by omega)).mono ?_
          rw [turnM_state]
          rintro e w13 ⟨rfl, S⟩
          have HS13 := Lib.hid S
          clear S HS12
          rw [show (decide (0 < i) && (decide (i = (⟨i + 1, 0⟩ : RSt).now) || decide (i = (⟨i + 1, 0⟩ : RSt).old))) = false by simp; omega]
          go_wp2_with fail
          go_roundw
          case rel => exact ⟨i + 1, D3, _, by go_num, by omega, by omega, HA3.out, by have := HL.out; simp; omega, HS13.out⟩
          case measure => simp [intOf]; omega
        · have h1i' : (i : Int) ≤ 1 := by omega
          go_wp2_with fail
          refine (HEnd.out HS10.out).mono ?_
          rintro e w11 ⟨rfl, S⟩
          have HS11 := Lib.hid S
          clear S HS10
          go_wp2_with fail
          refine (ringLiveS x i HS11.out (by have := HX.out; unfold maxLen; omega) (by omega)).mono ?_
          rw [turnM_state]
          rintro e w12 ⟨rfl, S⟩
          have HS12 := Lib.hid S
          clear S HS11
          rw [show (decide (0 < i) && (decide (i = (⟨i + 1, 0⟩ : RSt).now) || decide (i = (⟨i + 1, 0⟩ : RSt).old))) = false by simp; omega]
          go_wp2_with fail
          go_roundw
          case rel => exact ⟨i + 1, D3, _, by go_num, by omega, by omega, HA3.out, by have := HL.out; simp; omega, HS12.out⟩
          case measure => simp [intOf]; omega
      · have hadd := add_str x [120] (by have := HX.out; unfold maxLen; simp; omega)
        go_wp2_with fail
        refine (ringStateS (x ++ [120]) HS4.out (by have := HX.out; unfold maxLen; simp; omega)).mono ?_
        rw [turnM_other]
        rintro e w5 ⟨rfl, S⟩
        have HS5 := Lib.hid S
        clear S
        go_wp2_with fail
        refine (ringDomainsS HS5.out (by have := (turnM_ok x i (by omega)).1; omega)).mono ?_
        rintro e w6 ⟨v, rfl, S⟩
        obtain ⟨F, ⟨_, hrow⟩, _⟩ := S.take
        have hlen : (ringDomains (turnM x i)).length ≤ 1 := by unfold ringDomains turnM; split <;> simp
        obtain ⟨a, q, cap, rfl, hq⟩ : ∃ a q cap, v = .slice a q cap ∧ q ≤ 1 := by
          rcases hrow.2 with ⟨rfl, h0⟩ | ⟨g, cap, cur, he, _⟩
          · exact ⟨_, _, _, rfl, by omega⟩
          · exact ⟨_, _, _, he, hlen⟩
        have HS6 := Lib.hid S
        have hq' : (q : Int) ≤ 1 := by omega
        clear S hrow
        go_wp2
        go_ret
        exact ⟨ret_bool (by simp), HS6.out.ext⟩
end Go.Proofs.Ytpkolkgndhagiaa
