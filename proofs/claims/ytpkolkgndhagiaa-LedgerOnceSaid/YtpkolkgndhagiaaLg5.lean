/- ledger: Keys. Conditions: the lengths fit. -/
import Derived.Test.YtpkolkgndhagiaaLg4
import Derived.Test.YtpkolkgndhagiaaRangeS
namespace Go.Proofs.Ytpkolkgndhagiaa
open Go.RowKit Go.Maps Go.Sort

def keysOf (M : Mp Cnt) : List Bs := (M.filter fun p => decide (0 < p.2.ceil)).map (·.1)
theorem keysOf_perm {M N : Mp Cnt} (h : M.Perm N) : (keysOf M).Perm (keysOf N) := (h.filter _).map _
section
variable {w0 w : World} {F0 : List Nat} {L : List Res} {p d step most : Nat} {M : Mp Cnt}
set_option maxRecDepth 100000 in
set_option maxHeartbeats 1000000 in
theorem ledKeysS (S : Sp w0 F0 w (ledR p d step most M :: L)) (hM : M.length ≤ 1000000) :
    Calls Try.prog 25 #[.pointer (some ⟨p, 0, none⟩)] w fun e w2 => ∃ v, e = .returned v ∧ Sp w0 F0 w2 (textsR v (keysOf M) :: ledR p d step most M :: L) := by
  obtain ⟨m, S1⟩ := S.exOpen
  have S2 := S1.part
  have c := S2.cell
  have HML := Lib.hid hM
  have HSRT : Hid ((keysOf M).Pairwise fun x y => x ≤ y) := by
    have h := S2.pull1.map.sorted keyedStrL
    unfold keysOf Hid
    rw [List.pairwise_map]
    refine (h.filter _).imp fun {a b} hab => ?_
    rw [bytesBefore_eq, decide_eq_true_eq] at hab
    exact List.le_of_lt hab
  obtain ⟨w1, cnt, hrun, S3⟩ := S2.pull1.rangeMade (t := 102) keyedStrL Try.underlying102
  have HS3 := Lib.hid S3.textsNil
  generalize w.heap.size = ri at *
  clear S S1 S2 S3 hM
  go_enter Try.func25, Try.ntmps25
  go_wp2_with fail
  go_loopw [3] (fun v wr => ∃ (o : List Bs) (N : Mp Cnt) (cnt : Nat), (o ++ keysOf N).Perm (keysOf M) ∧ Sp w0 F0 wr (textsR v o :: rangeR 9 encC m ri M N cnt :: boxR p #[.pointer (some ⟨d, 0, none⟩), .int .u64 step, .int .u64 most, .map (some m)] 104 :: L)) (fun _ wr => wr.rangeLeft m ri)
  case atStart => exact ⟨[], M, cnt, by simp, HS3.out⟩
  case round =>
    obtain ⟨o, N, cnt, hp, S4⟩ := hrel
    have HP := Lib.hid hp
    have HLE := Lib.hid S4.pull1.range.left_eq
    have HOL : Hid (o.length ≤ 1000000) := by
      have h1 := hp.length_eq
      have h2 : (keysOf M).length ≤ M.length := by unfold keysOf; rw [List.length_map]; exact List.length_filter_le _ _
      have := HML.out
      rw [List.length_append] at h1
      unfold Hid
      omega
    clear hp HS3 hrun c
    rcases S4.pull1.rangeNext Try.underlying9 with ⟨rfl, hnx⟩ | ⟨x, cc, w5, N1, cnt1, hperm, hmem, hxl, hnx, S5, hlt, hnot, hent⟩
    · have HS4 := Lib.hid S4
      clear S4
      go_wp2_with fail
      refine (sortTextsS HS4.out (by have := HOL.out; omega)).mono ?_
      rintro e w6 ⟨rfl, S6⟩
      have HS6 := Lib.hid S6
      clear S6 hnx
      go_wp2
      go_ret
      refine ⟨_, rfl, ?_⟩
      have h1 : sortB o = keysOf M := sortB_perm (by have := HP.out; simpa [keysOf] using this) HSRT.out
      have h2 := HS6.out
      rw [h1] at h2
      exact (((h2.pull1.rangeEnd).pull2.glue).exShut (f := fun m : Nat => (boxR p #[.pointer (some ⟨d, 0, none⟩), .int .u64 step, .int .u64 most, .map (some m)] 104).and (mapR 9 encC m M)) m).pull1
    · have HPERM := Lib.hid hperm
      have HLT := Lib.hid hlt
      obtain ⟨a, b⟩ := cc
      clear S4 hperm hmem hnot hlt hxl
      by_cases hb : 0 < b
      · have HP2 : Hid ((o ++ [x] ++ keysOf N1).Perm (keysOf M)) := by
          refine List.Perm.trans ?_ HP.out
          have h := keysOf_perm HPERM.out
          have e : keysOf ((x, ⟨a, b⟩) :: N1) = x :: keysOf N1 := by simp [keysOf, hb]
          rw [e] at h
          rw [List.append_assoc]
          exact (List.Perm.refl o).append h.symm
        have hb' : (0 : Int) < b := by omega
        have S6 := ((S5.pull1.new (.cells #[.int .u64 a, .int .u64 b] 106)).box #[.string ⟨x.toArray⟩] 9)
        simp only [World.size_alloc] at S6
        obtain ⟨g, cap, w7, hrun, S7⟩ := Sp.appendText 47 x (by have := HOL.out; omega) S6
        have HS7 := Lib.hid S7
        have HRUN := Lib.hid hrun
        clear S5 S6 S7 hrun hb
        go_wp2_with (at_builtin; refine wpList_append_run (by rfl) (by rfl) (by rfl) (by rfl) HRUN.out ?_)
        go_roundw
        case rel => exact ⟨o ++ [x], N1, cnt1, HP2.out, HS7.out⟩
        case measure =>
          have h1 := HS7.out.pull1.range.left_eq
          have h2 := HLE.out
          have h3 := HLT.out
          omega
      · obtain rfl : b = 0 := by omega
        have HP2 : Hid ((o ++ keysOf N1).Perm (keysOf M)) := by
          refine List.Perm.trans ?_ HP.out
          have h := keysOf_perm HPERM.out
          have e : keysOf ((x, ⟨a, 0⟩) :: N1) = keysOf N1 := by simp [keysOf]
          rw [e] at h
          exact (List.Perm.refl o).append h.symm
        have HS6 := Lib.hid (S5.pull1.new (.cells #[.int .u64 a, .int .u64 0] 106))
        clear S5 hb
        go_wp2_with fail
        go_roundw
        case rel => exact ⟨o, N1, cnt1, HP2.out, HS6.out⟩
        case measure =>
          have h1 := HS6.out.pull1.range.left_eq
          have h2 := HLE.out
          have h3 := HLT.out
          omega
end
end Go.Proofs.Ytpkolkgndhagiaa
