/- ring: Begin, End, Key. Conditions: the lengths fit. -/
import Derived.Test.YtpkolkgndhagiaaRing1
namespace Go.Proofs.Ytpkolkgndhagiaa
open Go.RowKit Go.Maps

def ringBegin (D : Dk) (M : Mp RSt) (x : Bs) : Dk × Mp RSt × Nat × Int :=
  if 255 < x.length then (D, M, 0, 5)
  else if (ringState M x).old ≠ 0 then (D, M, 0, 11)
  else if (ringState M x).now = 1000000 then (D, M, 0, 21)
  else if (ringSet D M x ⟨(ringState M x).now + 1, (ringState M x).now⟩).2.2 ≠ 0 then ((ringSet D M x ⟨(ringState M x).now + 1, (ringState M x).now⟩).1, (ringSet D M x ⟨(ringState M x).now + 1, (ringState M x).now⟩).2.1, 0, (ringSet D M x ⟨(ringState M x).now + 1, (ringState M x).now⟩).2.2)
  else ((ringSet D M x ⟨(ringState M x).now + 1, (ringState M x).now⟩).1, (ringSet D M x ⟨(ringState M x).now + 1, (ringState M x).now⟩).2.1, (ringState M x).now + 1, 0)
def ringEnd (D : Dk) (M : Mp RSt) (x : Bs) : Dk × Mp RSt × Int :=
  if 255 < x.length then (D, M, 5)
  else if (ringState M x).old = 0 then (D, M, 10)
  else ringSet D M x ⟨(ringState M x).now, 0⟩
def ringKey (x : Bs) (n : Nat) : Bs := textB x ++ numB n
/-- What all states of a ring are below. -/
def ringOk (M : Mp RSt) : Prop := M.length ≤ 1000000 ∧ ∀ p ∈ M, p.2.now ≤ 1000000 ∧ p.2.old ≤ 1000000
theorem ringOk.state {M : Mp RSt} (h : ringOk M) (x : Bs) : (ringState M x).now ≤ 1000000 ∧ (ringState M x).old ≤ 1000000 := by
  unfold ringState Mp.get
  cases hf : M.find? fun p => p.1 == x with
  | none => simp
  | some p => exact h.2 p (List.mem_of_find?_eq_some hf)

section
variable {w0 w : World} {F0 : List Nat} {L : List Res} {p d : Nat} {M : Mp RSt}
set_option maxRecDepth 100000 in
set_option maxHeartbeats 400000 in
theorem ringKeyS (x : Bs) (n : Nat) (S : Sp w0 F0 w L) (hx : x.length ≤ 1000000) (hn : n < 18446744073709551616) :
    Calls Try.prog 31 #[.string ⟨x.toArray⟩, .int .u64 n] w fun e w2 => e = .returned (.string ⟨(ringKey x n).toArray⟩) ∧ Sp w0 F0 w2 L := by
  have HS := Lib.hid S
  have HX := Lib.hid hx
  have HN := Lib.hid hn
  have HK : Hid (ringKey x n = textB x ++ numB n) := rfl
  have hadd := add_str (textB x) (numB n) (by have := textB_length_le x; have := numB_length_le n; unfold maxLen; omega)
  clear S hx hn
  go_enter Try.func31, Try.ntmps31
  go_wp2_with fail
  refine (packTextS HS.out x (by have := HX.out; omega)).mono ?_
  rintro e w1 ⟨rfl, S1⟩
  have HS1 := Lib.hid S1
  clear S1
  go_wp2_with fail
  refine (packNumS HS1.out n HN.out).mono ?_
  rintro e w2 ⟨rfl, S2⟩
  have HS2 := Lib.hid S2
  clear S2
  go_wp2
  go_ret
  exact ⟨by rw [HK.out]; rfl, HS2.out⟩

set_option maxRecDepth 100000 in
set_option maxHeartbeats 1000000 in
theorem ringBeginS (x : Bs) (k : Nat) (D : Dk) (S : Sp w0 F0 w (ringR p d M :: diskR d D :: L)) (hx : x.length ≤ 1000000) (hM : ringOk M) (hD : D.Roomy k) (hk : k ≤ 800000000) :
    Calls Try.prog 35 #[.pointer (some ⟨p, 0, none⟩), .string ⟨x.toArray⟩] w fun e w2 => e = .returned (.tuple #[.int .u64 (ringBegin D M x).2.2.1, .int .i64 (ringBegin D M x).2.2.2]) ∧ Sp w0 F0 w2 (ringR p d (ringBegin D M x).2.1 :: diskR d (ringBegin D M x).1 :: L) := by
  have HS := Lib.hid S
  have HX := Lib.hid hx
  have HM := Lib.hid hM
  have HD := Lib.hid hD
  have HK := Lib.hid hk
  have hb := hM.state x
  have hx' : (x.length : Int) ≤ 1000000 := by omega
  have HB : Hid (ringBegin D M x = _) := Lib.hid (ringBegin.eq_1 D M x)
  clear S hM hD hk hx
  go_enter Try.func35, Try.ntmps35
  go_wp2_with fail
  refine (ringStateS x HS.out (by have := HX.out; unfold maxLen; omega)).mono ?_
  rintro e w2 ⟨rfl, S2⟩
  generalize hs : ringState M x = s at *
  have HE := Lib.hid hs
  clear hs HS
  obtain ⟨a, b⟩ := s
  dsimp only at *
  have HS2 := Lib.hid (S2.box (.mk [.int .u64 a, .int .u64 b]) 67).pull2.pull2
  have ha : (a : Int) ≤ 1000000 := by omega
  have hb' : (b : Int) ≤ 1000000 := by omega
  have HA := Lib.hid hb.1
  clear S2 hb
  go_wp2_with (go_at_call 63; refine (ringSetS x (a + 1) a k D HS2.out HX.out (by have := HA.out; omega) (by have := HA.out; omega) HD.out HK.out HM.out.1).mono ?_; rintro e w3 ⟨rfl, S3⟩; have c3 := (Sp.pick [_, _, _] [2] (by decide) (S3)).cell; have HS3 := Lib.hid S3; clear S3)
  all_goals
    go_ret2
    rw [HB.out]
    simp only [bne_iff_ne, ne_eq, bne_eq_false_iff_eq, beq_iff_eq, beq_eq_false_iff_ne] at *
    repeat' split
    all_goals first
      | (exfalso; omega)
      | exact ⟨rfl, (Sp.pick [_, _, _] [0, 1] (by decide) (HS2.out))⟩
      | exact ⟨rfl, (Sp.pick [_, _, _] [0, 1] (by decide) (HS3.out))⟩

set_option maxRecDepth 100000 in
set_option maxHeartbeats 1000000 in
theorem ringEndS (x : Bs) (k : Nat) (D : Dk) (S : Sp w0 F0 w (ringR p d M :: diskR d D :: L)) (hx : x.length ≤ 1000000) (hM : ringOk M) (hD : D.Roomy k) (hk : k ≤ 800000000) :
    Calls Try.prog 34 #[.pointer (some ⟨p, 0, none⟩), .string ⟨x.toArray⟩] w fun e w2 => e = .returned (.int .i64 (ringEnd D M x).2.2) ∧ Sp w0 F0 w2 (ringR p d (ringEnd D M x).2.1 :: diskR d (ringEnd D M x).1 :: L) := by
  have HS := Lib.hid S
  have HX := Lib.hid hx
  have HM := Lib.hid hM
  have HD := Lib.hid hD
  have HK := Lib.hid hk
  have hb := hM.state x
  have hx' : (x.length : Int) ≤ 1000000 := by omega
  have HB : Hid (ringEnd D M x = _) := Lib.hid (ringEnd.eq_1 D M x)
  clear S hM hD hk hx
  go_enter Try.func34, Try.ntmps34
  go_wp2_with fail
  refine (ringStateS x HS.out (by have := HX.out; unfold maxLen; omega)).mono ?_
  rintro e w2 ⟨rfl, S2⟩
  generalize hs : ringState M x = s at *
  have HE := Lib.hid hs
  clear hs HS
  obtain ⟨a, b⟩ := s
  dsimp only at *
  have HS2 := Lib.hid (S2.box (.mk [.int .u64 a, .int .u64 b]) 67).pull2.pull2
  have ha : (a : Int) ≤ 1000000 := by omega
  have hb' : (b : Int) ≤ 1000000 := by omega
  have HA := Lib.hid hb.1
  clear S2 hb
  go_wp2_with (go_at_call 63; refine (ringSetS x a 0 k D HS2.out HX.out (by have := HA.out; omega) (by decide) HD.out HK.out HM.out.1).mono ?_; rintro e w3 ⟨rfl, S3⟩; have HS3 := Lib.hid S3; clear S3)
  all_goals
    go_ret
    rw [HB.out]
    simp only [beq_iff_eq, beq_eq_false_iff_ne] at *
    repeat' split
    all_goals first
      | (exfalso; omega)
      | exact ⟨rfl, (Sp.pick [_, _, _] [0, 1] (by decide) (HS2.out))⟩
      | exact ⟨rfl, (Sp.pick [_, _, _] [0, 1] (by decide) (HS3.out))⟩
end
end Go.Proofs.Ytpkolkgndhagiaa
