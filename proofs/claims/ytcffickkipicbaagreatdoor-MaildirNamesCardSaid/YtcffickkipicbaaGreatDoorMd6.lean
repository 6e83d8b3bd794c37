/- maildir: compare. Conditions: names of messages. -/
import Derived.Test.YtcffickkipicbaaGreatDoorMd5
namespace Go.Proofs.YtcffickkipicbaaGreatDoor
open Go.RowKit Go.Sort Go.Maps

def cmpI (x y : Int) : Int := if x < y then -1 else if y < x then 1 else 0
set_option maxRecDepth 100000 in
theorem isNaNU (x : Int) (w : World) : Calls Tryz.prog 109 #[.int .u64 x] w fun e w2 => e = .returned (.bool false) ∧ w = w2 := by
  go_enter Tryz.func109, Tryz.ntmps109
  go_wp2
  go_ret
  exact ⟨rfl, rfl⟩
set_option maxRecDepth 100000 in
theorem isNaNI (x : Int) (w : World) : Calls Tryz.prog 110 #[.int .i64 x] w fun e w2 => e = .returned (.bool false) ∧ w = w2 := by
  go_enter Tryz.func110, Tryz.ntmps110
  go_wp2
  go_ret
  exact ⟨rfl, rfl⟩
set_option maxRecDepth 100000 in
theorem cmpU (x y : Int) (w : World) : Calls Tryz.prog 83 #[.int .u64 x, .int .u64 y] w fun e w2 => e = .returned (.int .i64 (cmpI x y)) ∧ w = w2 := by
  have HC : Hid (cmpI x y = if x < y then -1 else if y < x then 1 else 0) := rfl
  have hx := isNaNU x w
  have hy := isNaNU y w
  have HX := Lib.hid hx
  have HY := Lib.hid hy
  clear hx hy
  go_enter Tryz.func83, Tryz.ntmps83
  go_wp2_with fail
  refine HX.out.mono ?_
  rintro e w1 ⟨rfl, rfl⟩
  go_wp2_with fail
  refine HY.out.mono ?_
  rintro e w1 ⟨rfl, rfl⟩
  by_cases h1 : x < y
  · go_wp2
    go_ret
    exact ⟨ret_int (by rw [HC.out, if_pos h1]), rfl⟩
  · by_cases h2 : y < x
    · go_wp2
      go_ret
      exact ⟨ret_int (by rw [HC.out, if_neg (by omega), if_pos (by omega)]), rfl⟩
    · go_wp2
      go_ret
      exact ⟨ret_int (by rw [HC.out, if_neg (by omega), if_neg (by omega)]), rfl⟩
set_option maxRecDepth 100000 in
theorem cmpInt (x y : Int) (w : World) : Calls Tryz.prog 84 #[.int .i64 x, .int .i64 y] w fun e w2 => e = .returned (.int .i64 (cmpI x y)) ∧ w = w2 := by
  have HC : Hid (cmpI x y = if x < y then -1 else if y < x then 1 else 0) := rfl
  have hx := isNaNI x w
  have hy := isNaNI y w
  have HX := Lib.hid hx
  have HY := Lib.hid hy
  clear hx hy
  go_enter Tryz.func84, Tryz.ntmps84
  go_wp2_with fail
  refine HX.out.mono ?_
  rintro e w1 ⟨rfl, rfl⟩
  go_wp2_with fail
  refine HY.out.mono ?_
  rintro e w1 ⟨rfl, rfl⟩
  by_cases h1 : x < y
  · go_wp2
    go_ret
    exact ⟨ret_int (by rw [HC.out, if_pos h1]), rfl⟩
  · by_cases h2 : y < x
    · go_wp2
      go_ret
      exact ⟨ret_int (by rw [HC.out, if_neg (by omega), if_pos (by omega)]), rfl⟩
    · go_wp2
      go_ret
      exact ⟨ret_int (by rw [HC.out, if_neg (by omega), if_neg (by omega)]), rfl⟩
set_option maxRecDepth 100000 in
set_option maxHeartbeats 1000000 in
theorem cmpOr2 (g : Nat) (a b : Int) (w : World) (h0 : w.cell? ⟨g, 0, none⟩ = some (.int .i64 a)) (h1 : w.cell? ⟨g, 1, none⟩ = some (.int .i64 b)) (r : Int) (hr : r = if a ≠ 0 then a else b) :
    Calls Tryz.prog 82 #[.slice (some ⟨g, 0, none⟩) 2 2] w fun e w2 => e = .returned (.int .i64 r) ∧ w = w2 := by
  have HR := Lib.hid hr
  clear hr
  go_enter Tryz.func82, Tryz.ntmps82
  go_wp2_with fail
  go_loop [8] (fun z => ∃ k : Nat, z = .int .i64 k ∧ k ≤ 2 ∧ (1 ≤ k → a = 0) ∧ (2 ≤ k → b = 0)) (fun z => 2 - (intOf z).toNat)
  case atStart => exact ⟨0, rfl, by omega, by omega, by omega⟩
  case round =>
    obtain ⟨k, rfl, hk, ha, hb⟩ := hrel
    obtain rfl | rfl | rfl : k = 0 ∨ k = 1 ∨ k = 2 := by omega
    · by_cases h : a = 0
      · subst h
        go_wp2
        go_round
        case rel => exact ⟨1, rfl, by omega, by simp, fun h => by omega⟩
        case measure => simp [intOf]
      · have t : (a != 0) = true := by simpa using h
        have e : r = a := by rw [HR.out, if_pos h]
        have HE := Lib.hid e
        clear e h ha hb
        go_wp2
        go_ret
        exact ⟨ret_int HE.out.symm, rfl⟩
    · obtain rfl := ha (by omega)
      by_cases h : b = 0
      · subst h
        go_wp2
        go_round
        case rel => exact ⟨2, rfl, by omega, by simp, by simp⟩
        case measure => simp [intOf]
      · have t : (b != 0) = true := by simpa using h
        have e : r = b := by rw [HR.out, if_neg (by simp)]
        have HE := Lib.hid e
        clear e h ha hb
        go_wp2
        go_ret
        exact ⟨ret_int HE.out.symm, rfl⟩
    · obtain rfl := ha (by omega)
      obtain rfl := hb (by omega)
      have HE : Hid (r = 0) := by rw [HR.out]; simp [Hid]
      go_wp2
      go_ret
      exact ⟨ret_int HE.out.symm, rfl⟩
theorem mdCmp_eq (x y : Bs) : mdCmp x y = if cmpI ((mdParse x).2.1 : Int) (mdParse y).2.1 ≠ 0 then cmpI ((mdParse x).2.1 : Int) (mdParse y).2.1 else cmpI ((mdParse x).2.2.1 : Int) (mdParse y).2.2.1 := by
  unfold mdCmp cmpI
  generalize (mdParse x).2.1 = a
  generalize (mdParse y).2.1 = b
  generalize (mdParse x).2.2.1 = c
  generalize (mdParse y).2.2.1 = d
  by_cases h1 : a < b
  · have : (a : Int) < b := by omega
    simp [h1, this]
  · by_cases h2 : b < a
    · have i1 : ¬ (a : Int) < b := by omega
      have i2 : (b : Int) < a := by omega
      simp [h1, h2, i1, i2]
    · have i1 : ¬ (a : Int) < b := by omega
      have i2 : ¬ (b : Int) < a := by omega
      simp only [h1, h2, i1, i2, if_false, ne_eq, not_true_eq_false]
      by_cases h3 : c < d
      · have : (c : Int) < d := by omega
        simp [h3, this]
      · by_cases h4 : d < c
        · have j1 : ¬ (c : Int) < d := by omega
          have j2 : (d : Int) < c := by omega
          simp [h3, h4, j1, j2]
        · have j1 : ¬ (c : Int) < d := by omega
          have j2 : ¬ (d : Int) < c := by omega
          simp [h3, h4, j1, j2]
theorem mdIs_len {s : Bs} (h : mdIs s = true) : s.length ≤ 18 := by
  obtain ⟨h1, h2⟩ := mdIs_sound h
  rw [h2]
  exact nameB_len h1
set_option maxRecDepth 100000 in
set_option maxHeartbeats 1000000 in
theorem mdCompare (x y : Bs) (hx : mdIs x = true) (hy : mdIs y = true) (w : World) (E : Env w) :
    Calls Tryz.prog 53 #[.string ⟨x.toArray⟩, .string ⟨y.toArray⟩] w fun e w2 => e = .returned (.int .i64 (mdCmp x y)) ∧ Grown w w2 := by
  have HC := Lib.hid (mdCmp_eq x y)
  have HPX := Lib.hid (mdParse_any x w E (by have := mdIs_len hx; omega))
  have HPY := Lib.hid (fun w2 (h : Ext [] w w2) => mdParse_any y w2 (E.ext h) (by have := mdIs_len hy; omega))
  have HX := Lib.hid hx
  have HY := Lib.hid hy
  generalize mdParse x = px at *
  generalize mdParse y = py at *
  obtain ⟨x1, x2, x3, x4⟩ := px
  obtain ⟨y1, y2, y3, y4⟩ := py
  dsimp only at *
  clear E hx hy
  go_enter Tryz.func53, Tryz.ntmps53
  go_wp2_with fail
  refine HPX.out.mono ?_
  rintro e w1 ⟨rfl, _, hg⟩
  have HG1 := Lib.hid (hg HX.out)
  clear hg
  go_wp2_with fail
  refine (HPY.out _ HG1.out.ext).mono ?_
  rintro e w2 ⟨rfl, _, hg⟩
  have HG2 := Lib.hid (HG1.out.trans (hg HY.out))
  clear hg
  go_wp2_with fail
  refine (cmpU _ _ _).mono ?_
  rintro e w3 ⟨rfl, rfl⟩
  go_wp2_with fail
  refine (cmpInt _ _ _).mono ?_
  rintro e w3 ⟨rfl, rfl⟩
  generalize cmpI (x2 : Int) y2 = a at *
  generalize cmpI (x3 : Int) y3 = b at *
  go_wp2_with fail
  refine (cmpOr2 _ a b _ (by simp) (by simp) (mdCmp x y) HC.out).mono ?_
  rintro e w3 ⟨rfl, rfl⟩
  go_wp2
  go_ret
  exact ⟨rfl, HG2.out.alloc _⟩
end Go.Proofs.YtcffickkipicbaaGreatDoor
