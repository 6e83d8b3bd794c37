/- octet and pack: a number's bytes, and the number of bytes. Conditions: numbers below 2^64, lengths fit. -/
import Derived.Test.YtpkolkgndhagiaaGreatChecked
import Derived.Test.YtpkolkgndhagiaaGreatBv
import Derived.Test.YtpkolkgndhagiaaGreatPackP
import Derived.Laws.BitsAllLaws
import Derived.Laws.BitsLemmas
import Derived.Deep.OwnRows
import Derived.Laws.IdiomStrings
import Derived.Laws.NewBlocks
import Derived.BigRegion
set_option linter.unusedSimpArgs false
set_option linter.unusedVariables false
set_option linter.unnecessarySimpa false
namespace Go.Proofs.YtpkolkgndhagiaaGreat
open Go.RowKit Go.Maps

theorem needF_pos (k m : Nat) (h : m ≠ 0) : needF (k + 1) m = needF k (m / 256) + 1 := by rw [needF, if_neg h]
theorem needF_zero (k : Nat) : needF k 0 = 0 := by cases k <;> simp [needF]

set_option maxRecDepth 100000 in
set_option maxHeartbeats 400000 in
theorem need_any (n : Nat) (w : World) (hn : n < 18446744073709551616) :
    Calls Tryz.prog 75 #[.int .u64 n] w fun e w2 => e = .returned (.int .i64 (need n)) ∧ w = w2 := by
  have HN := Lib.hid hn
  clear hn
  go_enter Tryz.func75, Tryz.ntmps75
  go_wp2
  go_loop [0, 3] (fun x k => ∃ m j : Nat, x = .int .u64 m ∧ k = .int .i64 j ∧ j ≤ 8 ∧ m < 256 ^ (8 - j) ∧ needF (8 - j) m + j = need n) (fun x _ => (intOf x).toNat)
  case atStart => exact ⟨n, 0, rfl, rfl, by omega, by simpa using HN.out, rfl⟩
  case round =>
    obtain ⟨m, j, rfl, rfl, hj, hm, he⟩ := hrel
    have HM := Lib.hid hm
    have HE := Lib.hid he
    clear hm he
    by_cases h0 : m = 0
    · subst h0
      go_wp2
      go_ret
      exact ⟨ret_int (by have := HE.out; rw [needF_zero] at this; omega), rfl⟩
    · have hp : (0 : Int) < m := by omega
      have hj8 : j < 8 := by
        rcases Nat.lt_or_ge j 8 with h | h
        · exact h
        · obtain rfl : j = 8 := by omega
          have := HM.out
          simp at this
          omega
      have HE2 : Hid (needF (8 - (j + 1)) (m / 256) + (j + 1) = need n) := by
        have := HE.out
        obtain ⟨i, hi⟩ : ∃ i, 8 - j = i + 1 := ⟨7 - j, by omega⟩
        rw [hi, needF_pos _ _ h0] at this
        unfold Hid
        rw [show 8 - (j + 1) = i by omega]
        omega
      have HM2 : Hid (m / 256 < 256 ^ (8 - (j + 1))) := by
        have := HM.out
        obtain ⟨i, hi⟩ : ∃ i, 8 - j = i + 1 := ⟨7 - j, by omega⟩
        rw [hi, Nat.pow_succ] at this
        unfold Hid
        rw [show 8 - (j + 1) = i by omega]
        omega
      go_wp2
      go_round
      case rel => exact ⟨m / 256, j + 1, by go_num, by go_num, by omega, HM2.out, HE2.out⟩
      case measure => simp [intOf]; omega

theorem or_sum (x : Nat) (c : UInt8) (hx : x < 72057594037927936) : bits .or .u64 (IntKind.u64.wrap ((x : Int) * 256)) (IntKind.u64.wrap (c.toNat : Int)) = ((x * 256 + c.toNat : Nat) : Int) := by
  have hc := c.toNat_lt
  have e1 : IntKind.u64.wrap ((x : Int) * 256) = ((x * 256 : Nat) : Int) := by rw [IntKind.wrap_u64]; omega
  have e2 : IntKind.u64.wrap (c.toNat : Int) = (c.toNat : Int) := by rw [IntKind.wrap_u64]; omega
  rw [e1, e2, u64_or_nat _ _ (by omega) (by omega)]
  have := Nat.shiftLeft_add_eq_or_of_lt (i := 8) (b := c.toNat) (by omega) x
  rw [Nat.shiftLeft_eq] at this
  rw [← this]

theorem take_next (s : Bs) (k : Nat) (h : k < s.length) : s.take (k + 1) = s.take k ++ [s[k]] := List.take_succ_eq_append_getElem h
theorem ret_u64 {a b : Int} {v : Value} (h : a = b) : Ending.returned (.tuple #[.int .u64 a, v]) = Ending.returned (.tuple #[.int .u64 b, v]) := by rw [h]

set_option maxRecDepth 100000 in
set_option maxHeartbeats 400000 in
theorem fromHigh_bytes (ba : ByteArray) (s : Bs) (w : World) (hs : s.length ≤ 8) (HT : Hid (ba.data.toList = s)) :
    Calls Tryz.prog 83 #[.string ba] w fun e w2 => e = .returned (.tuple #[.int .u64 (fromH s), .int .i64 0]) ∧ w = w2 := by
  have HS := Lib.hid hs
  have HZ : Hid (ba.size = s.length) := by rw [← HT.out]; simp [Hid]
  have hsz : (ba.size : Int) ≤ 8 := by have := HZ.out; omega
  have HG : Hid (∀ k (h : k < ba.size) (h2 : k < s.length), ba[k] = s[k]) := fun k h h2 => by
    have h3 := HT.out
    subst h3
    rfl
  clear hs
  go_enter Tryz.func83, Tryz.ntmps83
  go_wp2
  go_loop [4, 11] (fun x i => ∃ k : Nat, k ≤ ba.size ∧ i = .int .i64 k ∧ x = .int .u64 (fromH (s.take k))) (fun _ i => ba.size - (intOf i).toNat)
  case atStart => exact ⟨0, Nat.zero_le _, rfl, rfl⟩
  case round =>
    obtain ⟨k, hk, rfl, rfl⟩ := hrel
    by_cases hlt : k < ba.size
    · have hk2 : k < s.length := by have := HZ.out; omega
      have hf := fromH_lt _ (s.take k) rfl
      have HF : Hid (fromH (s.take k) < 72057594037927936) := by
        have h1 : (s.take k).length ≤ 7 := by rw [List.length_take]; have := HS.out; omega
        have h3 : 256 ^ (s.take k).length ≤ 256 ^ 7 := Nat.pow_le_pow_right (by omega) h1
        unfold Hid
        omega
      clear hf
      go_wp2
      go_round
      case rel =>
        refine ⟨k + 1, by omega, by go_num, ?_⟩
        rw [or_sum _ _ HF.out, take_next s k hk2, fromH_snoc, HG.out k hlt hk2]
      case measure => simp [intOf]; omega
    · go_wp2
      go_ret2
      exact ⟨ret_u64 (by rw [List.take_of_length_le (by have := HZ.out; omega)]), rfl⟩

theorem fromHigh_any (s : Bs) (w : World) (hs : s.length ≤ 8) :
    Calls Tryz.prog 83 #[.string ⟨s.toArray⟩] w fun e w2 => e = .returned (.tuple #[.int .u64 (fromH s), .int .i64 0]) ∧ w = w2 := fromHigh_bytes ⟨s.toArray⟩ s w hs rfl

/-! ### bytes of a number -/
def lowBs (x : Nat) : Nat → Bs
  | 0 => []
  | n + 1 => UInt8.ofNat (x % 256) :: lowBs (x / 256) n
theorem lowB_length : ∀ (n x : Nat), (lowBs x n).length = n
  | 0, _ => rfl
  | n + 1, x => by simp [lowBs, lowB_length n]
theorem high_rev : ∀ (n x : Nat), (highB x n).reverse = lowBs x n
  | 0, _ => rfl
  | n + 1, x => by simp [highB, lowBs, high_rev n]
theorem lowB_snoc : ∀ (k x : Nat), lowBs x (k + 1) = lowBs x k ++ [UInt8.ofNat (x / 256 ^ k % 256)]
  | 0, x => by simp [lowBs]
  | k + 1, x => by
    rw [lowBs, lowB_snoc k, lowBs, List.cons_append, Nat.div_div_eq_div_mul, Nat.pow_succ, Nat.mul_comm 256]
def rowB (l : Bs) : Array Value := (l.map bv).toArray
theorem made_rowB (n : Nat) : madeCells #[.int .u8 0] n = rowB (List.replicate n 0) := by
  apply Array.ext
  · simp [madeCells, rowB]
  · intro i h1 h2
    simp [madeCells, rowB, Nat.mod_one]
theorem rowB_set (l : Bs) (z c : UInt8) (r : Bs) : (rowB (l ++ z :: r)).setIfInBounds l.length (bv c) = rowB (l ++ c :: r) := by
  simp [rowB]
theorem rowB_get (l : Bs) (k : Nat) : (rowB l)[k]? = l[k]?.map bv := by simp [rowB]
theorem u8_wrap (m : Nat) : (m : Int) % 256 = ((UInt8.ofNat (m % 256)).toNat : Int) := by simp

set_option maxRecDepth 100000 in
set_option maxHeartbeats 1000000 in
theorem bytes_any (x n : Nat) (w : World) (hn : n ≤ 64) :
    Calls Tryz.prog 90 #[.int .u64 x, .int .i64 n] w fun e w2 => e = .returned (.slice (some ⟨w.heap.size, 0, none⟩) n n) ∧ w.alloc (.cells (rowB (lowBs x n)) 5) = w2 := by
  have hmk := fun W => run_make_row' (P := Tryz.prog) 121 5 (.int .u8 0) 1 Tryz.underlying121 (by kernel_rfl) rfl .i64 .i64 n (by omega) (by omega) W
  rw [made_rowB] at hmk
  have h0 : (0 : Int) ≤ n := by omega
  have h64 : (n : Int) ≤ 64 := by omega
  obtain ⟨A0, hA0⟩ : ∃ A0, rowB (List.replicate n 0) = A0 := ⟨_, rfl⟩
  rw [hA0] at hmk
  have HA0 := Lib.hid hA0
  clear hA0
  go_enter Tryz.func90, Tryz.ntmps90
  go_wp2
  go_loopw [0, 13] (fun y i wr => ∃ k m : Nat, k ≤ n ∧ i = .int .i64 k ∧ y = .int .u64 m ∧ m = x / 256 ^ k ∧ w.alloc (.cells (rowB (lowBs x k ++ List.replicate (n - k) 0)) 5) = wr) (fun _ i _ => n - (intOf i).toNat)
  case atStart => exact ⟨0, x, Nat.zero_le _, rfl, rfl, by simp, by rw [← HA0.out]; rfl⟩
  case round =>
    obtain ⟨k, m, hk, rfl, rfl, hm, rfl⟩ := hrel
    have HM := Lib.hid hm
    clear hm
    by_cases hlt : k < n
    · have e1 : List.replicate (n - k) (0 : UInt8) = 0 :: List.replicate (n - (k + 1)) 0 := by
        rw [show n - k = (n - (k + 1)) + 1 by omega, List.replicate_succ]
      have hget : (rowB (lowBs x k ++ List.replicate (n - k) 0))[k]? = some (.int .u8 0) := by
        rw [rowB_get, e1]; simp [lowB_length]
      have HSET : Hid ((rowB (lowBs x k ++ List.replicate (n - k) 0)).setIfInBounds k (.int .u8 ((m : Int) % 256)) = rowB (lowBs x (k + 1) ++ List.replicate (n - (k + 1)) 0)) := by
        have := rowB_set (lowBs x k) 0 (UInt8.ofNat (m % 256)) (List.replicate (n - (k + 1)) 0)
        rw [lowB_length] at this
        unfold Hid
        rw [u8_wrap, e1, this, lowB_snoc, HM.out]
        simp
      clear e1
      generalize rowB (lowBs x k ++ List.replicate (n - k) 0) = A at *
      go_wp2
      go_roundw
      case rel => exact ⟨k + 1, m / 256, by omega, by go_num, by go_num, by rw [HM.out, Nat.pow_succ, Nat.div_div_eq_div_mul], by rw [HSET.out]⟩
      case measure => simp [intOf]; omega
    · obtain rfl : k = n := by omega
      go_wp2
      go_ret
      exact ⟨rfl, by simp⟩
end Go.Proofs.YtpkolkgndhagiaaGreat
