/- ring: a row's bytes (row), and what bytes are read as (read). Conditions: the lengths fit. -/
import Derived.Test.YtpkolkgndhagiaaSpD
import Derived.Deep.DeepCutAuto
namespace Go.Proofs.Ytpkolkgndhagiaa
open Go.RowKit Go.Maps

structure RSt where
  now : Nat
  old : Nat
deriving DecidableEq
abbrev RSt.agg (s : RSt) : Value := .agg #[.int .u64 s.now, .int .u64 s.old]
def ringRow (d : Bs) (s : RSt) : Bs := textB (textB d ++ (numB s.now ++ numB s.old))
def ringRead (r : Rd) : Bs × RSt × Bool × Rd :=
  let a := r.text 300
  let t := Rd.text ⟨a.1, false⟩ 255
  let n := t.2.num 1000000
  let o := n.2.num 1000000
  (t.1, ⟨n.1, o.1⟩, decide (o.2.done = 0), a.2)

section
variable {w0 w : World} {F0 : List Nat} {L : List Res}

set_option maxRecDepth 100000 in
set_option maxHeartbeats 1000000 in
theorem ringRowS (d : Bs) (n o : Nat) (S : Sp w0 F0 w L) (hd : d.length ≤ 1000000) (hn : n < 18446744073709551616) (ho : o < 18446744073709551616) :
    Calls Try.prog 85 #[.string ⟨d.toArray⟩, .agg #[.int .u64 n, .int .u64 o]] w fun e w2 => e = .returned (.string ⟨(ringRow d ⟨n, o⟩).toArray⟩) ∧ Sp w0 F0 w2 L := by
  have HT : Hid (ringRow d ⟨n, o⟩ = textB (textB d ++ (numB n ++ numB o))) := rfl
  have HD := Lib.hid hd
  have HN := Lib.hid hn
  have HO := Lib.hid ho
  have l1 := textB_length_le d
  have l2 := numB_length_le n
  have l3 := numB_length_le o
  have HL : Hid ((textB d).length ≤ 1000009 ∧ (textB d ++ numB n).length ≤ 1000018 ∧ (textB d ++ numB n ++ numB o).length ≤ 1000027) := by refine ⟨by omega, ?_, ?_⟩ <;> simp only [List.length_append] <;> omega
  have S0 := Lib.hid ((S.box #[.int .u64 n, .int .u64 o] 67).bld 147)
  clear hd hn ho l1 l2 l3 S
  go_enter Try.func85, Try.ntmps85
  go_wp2_with fail
  simp only [World.size_alloc] at S0
  refine (outTextS S0.out (by decide) (by have := HD.out; omega)).mono ?_
  rintro e w1 ⟨rfl, S1⟩
  have c := S1.pull1.cell
  have HS1 := Lib.hid S1
  clear S1 S0
  go_wp2_with fail
  refine (outNumS n HS1.out (by have := HL.out; simp; omega) HN.out).mono ?_
  rintro e w2 ⟨rfl, S2⟩
  have c2 := S2.pull1.cell
  have HS2 := Lib.hid S2
  clear S2 HS1 c
  go_wp2_with fail
  refine (outNumS o HS2.out (by have := HL.out; simp only [List.nil_append]; omega) HO.out).mono ?_
  rintro e w3 ⟨rfl, S3⟩
  have HS3 := Lib.hid S3
  clear S3 HS2 c2
  go_wp2_with fail
  refine (bldStringS HS3.out (by simp [textB, numB])).mono ?_
  rintro e w4 ⟨rfl, S4⟩
  have HS4 := Lib.hid S4.drop
  clear S4 HS3
  go_wp2_with fail
  refine (packTextS HS4.out _ (by have := HL.out; simp at this ⊢; omega)).mono ?_
  rintro e w5 ⟨rfl, S5⟩
  have HS5 := Lib.hid S5
  clear S5 HS4
  go_wp2
  go_ret
  exact ⟨by rw [HT.out]; rfl, HS5.out⟩

set_option maxRecDepth 100000 in
set_option maxHeartbeats 1000000 in
theorem ringReadS (b : Nat) (r : Rd) (S : Sp w0 F0 w (rdR 89 b r :: L)) (hr : r.s.length ≤ 1000000000) :
    Calls Try.prog 61 #[.pointer (some ⟨b, 0, none⟩)] w fun e w2 => e = .returned (.tuple #[.string ⟨(ringRead r).1.toArray⟩, (ringRead r).2.1.agg, .bool (ringRead r).2.2.1]) ∧ Sp w0 F0 w2 (rdR 89 b (ringRead r).2.2.2 :: L) := by
  have HE : Hid (ringRead r = ((Rd.text ⟨(r.text 300).1, false⟩ 255).1, ⟨((Rd.text ⟨(r.text 300).1, false⟩ 255).2.num 1000000).1, (((Rd.text ⟨(r.text 300).1, false⟩ 255).2.num 1000000).2.num 1000000).1⟩, decide ((((Rd.text ⟨(r.text 300).1, false⟩ 255).2.num 1000000).2.num 1000000).2.done = 0), (r.text 300).2)) := rfl
  have HR := Lib.hid hr
  have S0 := Lib.hid (S.box #[.int .u64 0, .int .u64 0] 67).pull1
  clear S hr
  go_enter Try.func61, Try.ntmps61
  go_wp2_with fail
  refine (rdTextS 300 300 rfl S0.out (by have := HR.out; omega) (by decide)).mono ?_
  rintro e w1 ⟨rfl, S1⟩
  have HT := Lib.hid (text_len r 300).2.2
  have HS1 := Lib.hid S1
  clear S1 S0
  generalize r.text 300 = a at *
  obtain ⟨t, r1⟩ := a
  dsimp only at *
  go_wp2_with fail
  refine (fromS HS1.out t).mono ?_
  rintro e w2 ⟨q, rfl, S2⟩
  have HS2 := Lib.hid S2
  clear S2 HS1
  go_wp2_with fail
  refine (rdTextS 255 255 rfl HS2.out (by have := HT.out; have := HR.out; dsimp only; omega) (by decide)).mono ?_
  rintro e w3 ⟨rfl, S3⟩
  have HT3 := Lib.hid (text_len ⟨t, false⟩ 255).1
  have HS3 := Lib.hid S3
  clear S3 HS2
  generalize Rd.text ⟨t, false⟩ 255 = a at *
  obtain ⟨d, r2⟩ := a
  dsimp only at *
  go_wp2_with fail
  refine (rdNumS 1000000 1000000 rfl HS3.out (by have := HT3.out; have := HT.out; have := HR.out; omega)).mono ?_
  rintro e w4 ⟨rfl, S4⟩
  have HT4 := Lib.hid (num_len r2 1000000).1
  have HS4 := Lib.hid S4
  clear S4 HS3
  generalize r2.num 1000000 = a at *
  obtain ⟨n, r3⟩ := a
  dsimp only at *
  go_wp2_with fail
  refine (rdNumS 1000000 1000000 rfl HS4.out (by have := HT4.out; have := HT3.out; have := HT.out; have := HR.out; omega)).mono ?_
  rintro e w5 ⟨rfl, S5⟩
  have HS5 := Lib.hid S5
  clear S5 HS4
  generalize r3.num 1000000 = a at *
  obtain ⟨o, r4⟩ := a
  dsimp only at *
  go_wp2_with fail
  have S6 := HS5.out.box #[.int .u64 n, .int .u64 o] 67
  generalize w5.alloc (.cells #[.int .u64 n, .int .u64 o] 67) = W at *
  generalize w5.heap.size = q8 at *
  have c8 := S6.cell
  have c3 := S6.pull3.cell
  have f3 := S6.pull3.free
  have HS6 := Lib.hid S6
  clear S6 HS5
  go_region_with (go_at_call 69; refine (rdDoneS HS6.out.drew.pull1).mono ?_; rintro e w2 ⟨rfl, rfl⟩)
  all_goals
    go_wp2
    have S7 := ((HS6.out.pull3.set (o := 0) (.int .u64 n)).set (o := 1) (.int .u64 o)).drew
    generalize ((W.setCell ⟨w.heap.size, 0, none⟩ (.int .u64 n)).setCell ⟨w.heap.size, 1, none⟩ (.int .u64 o)).drew = W2 at *
    have c7 := S7.cell
    have HS7 := Lib.hid S7
    clear S7 HS6 c8 c3 f3
    refine bodyPost_ret (v := .tuple #[.string ⟨d.toArray⟩, .agg #[.int .u64 n, .int .u64 o], .bool (decide (r4.done = 0))]) ?_ rfl ⟨by rw [HE.out], by rw [HE.out]; exact (Sp.pick [_, _, _, _] [3] (by decide) (HS7.out))⟩
    simp [results, Try.results61, go_sem, c7]
    rfl
end
end Go.Proofs.Ytpkolkgndhagiaa
