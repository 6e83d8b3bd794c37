/- poly, plainly: numbers of five parts, each below 2^64, as the code reckons with them. No program. poly: plus, carry, times, read, whole, bytes. Conditions: the parts are below 2^64. poly: times, read. Conditions: the parts are below 2^64; at most 17 bytes. poly: whole, bytes, Clamp. Conditions: the parts are below 2^64. poly: step. Conditions: the parts are below 2^64; at most 16 bytes. poly: New, Add. Conditions: a key of 32 bytes; the lengths fit. poly: Add, Tag. Conditions: a key of 32 bytes; the lengths fit. -/
import Derived.Test.YtkenacggjffjnaaGreatDoorBase
import Derived.Test.YtkenacggjffjnaaGreatDoorArI
import Derived.Test.YtkenacggjffjnaaGreatDoorReg
import Derived.Test.YtkenacggjffjnaaGreatDoorOct
import Derived.Test.YtkenacggjffjnaaGreatDoorOcY
import Derived.Test.YtkenacggjffjnaaGreatDoorChainG
import Derived.Test.YtkenacggjffjnaaGreatDoorEnv
import Derived.Test.YtkenacggjffjnaaGreatDoorRd
import Derived.Deep.LoopGhost
/-! PoP -/
set_option linter.unusedSimpArgs false
set_option linter.unusedVariables false
set_option linter.unnecessarySimpa false
namespace Go.Proofs.YtkenacggjffjnaaGreatDoor
open Go.RowKit

abbrev B64 : Nat := 18446744073709551616
abbrev B26 : Nat := 67108864
/-- Five parts, each below 2^64. -/
def Limbs (l : List Nat) : Prop := l.length = 5 ∧ ∀ x ∈ l, x < 18446744073709551616
theorem Limbs.getD {l : List Nat} (h : Limbs l) (i : Nat) : l.getD i 0 < 18446744073709551616 := by
  rw [List.getD_eq_getElem?_getD]
  cases e : l[i]? with
  | none => simp
  | some x => exact h.2 x (List.mem_of_getElem? e)
theorem Limbs.set {l : List Nat} (h : Limbs l) (i x : Nat) (hx : x < 18446744073709551616) : Limbs (l.set i x) := by
  refine ⟨by rw [List.length_set]; exact h.1, fun y hy => ?_⟩
  rcases List.mem_or_eq_of_mem_set hy with hy | rfl
  · exact h.2 y hy
  · exact hx
def row64 (l : List Nat) : Array Value := (l.map fun n : Nat => Value.int .u64 n).toArray
theorem row64_get (l : List Nat) (i : Nat) (h : i < l.length) : (row64 l)[i]? = some (.int .u64 (l.getD i 0)) := by
  simp [row64, List.getD_eq_getElem?_getD, List.getElem?_eq_getElem h]
theorem row64_set (l : List Nat) (i x : Nat) : (row64 l).setIfInBounds i (.int .u64 x) = row64 (l.set i x) := by
  simp [row64, List.map_set]
theorem row64_size (l : List Nat) : (row64 l).size = l.length := by simp [row64]
def zero5 : List Nat := [0, 0, 0, 0, 0]
theorem zero5_limbs : Limbs zero5 := ⟨rfl, by decide⟩
/-- A part more by x. -/
def addAt (l : List Nat) (k x : Nat) : List Nat := l.set k ((l.getD k 0 + x) % 18446744073709551616)
theorem Limbs.addAt {l : List Nat} (h : Limbs l) (k x : Nat) : Limbs (addAt l k x) := h.set _ _ (Nat.mod_lt _ (by decide))
/-- The number of the first i bytes. -/
def readUp (s : Bs) : Nat → List Nat
  | 0 => zero5
  | i + 1 =>
    let v := (s.getD i 0).toNat * 2 ^ (8 * i % 26) % 18446744073709551616
    let l := addAt (readUp s i) (8 * i / 26) (v % 67108864)
    if 8 * i / 26 + 1 < 5 then addAt l (8 * i / 26 + 1) (v / 67108864) else l
theorem readUp_limbs (s : Bs) : ∀ i, Limbs (readUp s i)
  | 0 => zero5_limbs
  | i + 1 => by
    unfold readUp
    dsimp only
    split
    · exact ((readUp_limbs s i).addAt _ _).addAt _ _
    · exact (readUp_limbs s i).addAt _ _
def carryUp (l : List Nat) : Nat → List Nat × Nat
  | 0 => (l, 0)
  | k + 1 =>
    let x := ((carryUp l k).1.getD k 0 + (carryUp l k).2) % 18446744073709551616
    ((carryUp l k).1.set k (x % 67108864), x / 67108864)
theorem carryUp_limbs {l : List Nat} (h : Limbs l) : ∀ k, Limbs (carryUp l k).1
  | 0 => h
  | k + 1 => (carryUp_limbs h k).set _ _ (Nat.lt_of_lt_of_le (Nat.mod_lt _ (by decide)) (by decide))
theorem carryUp_lt (l : List Nat) : ∀ k, (carryUp l k).2 < 18446744073709551616
  | 0 => by simp [carryUp]
  | k + 1 => Nat.lt_of_le_of_lt (Nat.div_le_self _ _) (Nat.mod_lt _ (by decide))
def carry1 (l : List Nat) : List Nat := addAt (carryUp l 5).1 0 (5 * (carryUp l 5).2 % 18446744073709551616)
def carryN (l : List Nat) : Nat → List Nat
  | 0 => l
  | k + 1 => carry1 (carryN l k)
theorem carry1_limbs {l : List Nat} (h : Limbs l) : Limbs (carry1 l) := (carryUp_limbs h 5).addAt _ _
theorem carryN_limbs {l : List Nat} (h : Limbs l) : ∀ k, Limbs (carryN l k)
  | 0 => h
  | k + 1 => carry1_limbs (carryN_limbs h k)
def plusUp (n m : List Nat) : Nat → List Nat
  | 0 => n
  | k + 1 => addAt (plusUp n m k) k (m.getD k 0)
theorem plusUp_limbs {n : List Nat} (h : Limbs n) (m : List Nat) : ∀ k, Limbs (plusUp n m k)
  | 0 => h
  | k + 1 => (plusUp_limbs h m k).addAt _ _
def plus5 (n m : List Nat) : List Nat := plusUp n m 5
def prod5 (n m : List Nat) (i k : Nat) : Nat :=
  let v := n.getD i 0 * m.getD k 0 % 18446744073709551616
  if 5 ≤ i + k then v * 5 % 18446744073709551616 else v
def timesIn (n m : List Nat) (i : Nat) (o : List Nat) : Nat → List Nat
  | 0 => o
  | k + 1 => addAt (timesIn n m i o k) ((i + k) % 5) (prod5 n m i k)
theorem timesIn_limbs (n m : List Nat) (i : Nat) {o : List Nat} (h : Limbs o) : ∀ k, Limbs (timesIn n m i o k)
  | 0 => h
  | k + 1 => (timesIn_limbs n m i h k).addAt _ _
def timesUp (n m : List Nat) : Nat → List Nat
  | 0 => zero5
  | i + 1 => timesIn n m i (timesUp n m i) 5
theorem timesUp_limbs (n m : List Nat) : ∀ k, Limbs (timesUp n m k)
  | 0 => zero5_limbs
  | k + 1 => timesIn_limbs n m k (timesUp_limbs n m k) 5
def times5 (n m : List Nat) : List Nat := carryN (timesUp n m 5) 2
/-- The parts' beginnings beyond 26 bits go on to the next one. -/
def overUp (l : List Nat) : Nat → List Nat
  | 0 => l
  | k + 1 =>
    let l := overUp l k
    let l2 := addAt l (k + 1) (l.getD k 0 / 67108864)
    l2.set k (l2.getD k 0 % 67108864)
theorem overUp_limbs {l : List Nat} (h : Limbs l) : ∀ k, Limbs (overUp l k)
  | 0 => h
  | k + 1 => ((overUp_limbs h k).addAt _ _).set _ _ (Nat.lt_of_lt_of_le (Nat.mod_lt _ (by decide)) (by decide))
def whole5 (l : List Nat) : List Nat :=
  let n := carryN (carryN l 2) 2
  let m := overUp (addAt n 0 5) 4
  if m.getD 4 0 / 67108864 = 0 then n else m.set 4 (m.getD 4 0 % 67108864)
theorem whole5_limbs {l : List Nat} (h : Limbs l) : Limbs (whole5 l) := by
  unfold whole5
  dsimp only
  split
  · exact carryN_limbs (carryN_limbs h 2) 2
  · exact (overUp_limbs ((carryN_limbs (carryN_limbs h 2) 2).addAt _ _) 4).set _ _ (Nat.lt_of_lt_of_le (Nat.mod_lt _ (by decide)) (by decide))
def byte5 (l : List Nat) (i : Nat) : Nat :=
  let v := l.getD (8 * i / 26) 0 / 2 ^ (8 * i % 26)
  if 8 * i / 26 + 1 < 5 then v ||| (l.getD (8 * i / 26 + 1) 0 * 2 ^ (26 - 8 * i % 26) % 18446744073709551616) else v
def bytes5 (l : List Nat) : Bs := (List.range 16).map fun i => UInt8.ofNat (byte5 l i % 256)
theorem bytes5_length (l : List Nat) : (bytes5 l).length = 16 := rfl
def clampAt (i : Nat) (c : UInt8) : UInt8 := if i % 4 = 3 then c &&& 15 else if i % 4 = 0 ∧ 0 < i then c &&& 252 else c
def clampUp (r : Bs) : Nat → Bs
  | 0 => r
  | i + 1 => (clampUp r i).set i (clampAt i ((clampUp r i).getD i 0))
theorem clampUp_length (r : Bs) : ∀ i, (clampUp r i).length = r.length
  | 0 => rfl
  | i + 1 => by rw [clampUp, List.length_set, clampUp_length r i]
def step5 (r a : List Nat) (s : Bs) : List Nat := times5 (plus5 a (readUp (s ++ [1]) (s.length + 1))) r
/-- Whole halves taken in. -/
def addAll (r : List Nat) : Nat → List Nat → Bs → List Nat × Bs
  | 0, a, s => (a, s)
  | n + 1, a, s => if 16 ≤ s.length then addAll r n (step5 r a (s.take 16)) (s.drop 16) else (a, s)
def tag5 (r s a : List Nat) (rest : Bs) : Bs :=
  let a1 := if rest = [] then a else step5 r a rest
  bytes5 (overUp (plus5 (whole5 a1) s) 4)
theorem tag5_length (r s a : List Nat) (rest : Bs) : (tag5 r s a rest).length = 16 := rfl
def polyR (key : Bs) : List Nat := readUp (clampUp (key.take 16) 16) 16
def polyS (key : Bs) : List Nat := readUp (key.drop 16) 16
def polyTag (key t : Bs) : Bs :=
  let p := addAll (polyR key) (t.length / 16) zero5 t
  tag5 (polyR key) (polyS key) p.1 p.2
theorem polyTag_length (key t : Bs) : (polyTag key t).length = 16 := rfl
end Go.Proofs.YtkenacggjffjnaaGreatDoor

/-! PoW -/
namespace Go.Proofs.YtkenacggjffjnaaGreatDoor
open Go.RowKit

section
variable {w0 w : World} {F0 : List Nat} {L : List Res} {v : Value}
theorem add_64 (a b : Nat) : IntKind.u64.wrap ((a : Int) + (b : Int)) = ((a + b) % 18446744073709551616 : Nat) := by
  rw [IntKind.wrap_u64]
  omega
theorem info5 : (Tryz.prog.info? 191).map (·.size) = some 5 := by kernel_rfl
theorem info5_of {l : List Nat} (h : Limbs l) : (Tryz.prog.info? 191).map (·.size) = some (row64 l).size := info5.trans (by rw [row64_size, h.1])
theorem row64_one (l : List Nat) : (row64 l).all (·.oneCell') = true := by
  rw [Array.all_eq_true_iff_forall_mem]
  intro x hx
  simp only [row64, List.mem_toArray, List.mem_map] at hx
  obtain ⟨n, _, rfl⟩ := hx
  rfl
theorem row64_same {l m : List Nat} (h : Limbs l) (k : Limbs m) : (row64 l).size = (row64 m).size := by rw [row64_size, row64_size, h.1, k.1]
theorem Sp.at64 {b : Nat} {l : List Nat} {T : TypeId} (S : Sp w0 F0 w (boxR b (row64 l) T :: L)) {i : Nat} (h : i < l.length) : w.cell? ⟨b, i, none⟩ = some (.int .u64 (l.getD i 0)) := by
  rw [S.cell, row64_get l i h]
theorem Sp.put64 {b : Nat} {l : List Nat} {T : TypeId} (S : Sp w0 F0 w (boxR b (row64 l) T :: L)) (i x : Nat) (l2 : List Nat) (he : l.set i x = l2) : Sp w0 F0 (w.setCell ⟨b, i, none⟩ (.int .u64 x)) (boxR b (row64 l2) T :: L) := by
  have h := S.set (o := i) (.int .u64 x)
  rw [row64_set, he] at h
  exact h
set_option maxRecDepth 100000 in
set_option maxHeartbeats 1000000 in
theorem poPlus (n m : List Nat) (hn : Limbs n) (hm : Limbs m) (S : Sp w0 F0 w L) : Calls Tryz.prog 181 #[.agg (row64 n), .agg (row64 m)] w fun e w2 => e = .returned (.agg (row64 (plus5 n m))) ∧ Sp w0 F0 w2 L := by
  have HN := Lib.hid hn
  have HM := Lib.hid hm
  have HS0 := Lib.hid (((S.box (row64 n) 191).box (row64 m) 191).box (row64 zero5) 191)
  have hsz : ∀ (w : World) (o : Obj), (w.alloc o).heap.size = w.heap.size + 1 := fun _ o => Array.size_push _
  simp only [hsz] at HS0
  clear S hn hm hsz
  go_enter Tryz.func181, Tryz.ntmps181
  go_wp2_with fail
  have HS1 : Hid (Sp w0 F0 (((w.alloc (.cells (row64 n) 191)).alloc (.cells (row64 m) 191)).alloc (.cells #[.int .u64 0, .int .u64 0, .int .u64 0, .int .u64 0, .int .u64 0] 191)) _) := HS0
  clear HS0
  generalize ((w.alloc (.cells (row64 n) 191)).alloc (.cells (row64 m) 191)).alloc (.cells #[.int .u64 0, .int .u64 0, .int .u64 0, .int .u64 0, .int .u64 0] 191) = w1 at *
  generalize w.heap.size + 1 + 1 = g2 at *
  generalize w.heap.size + 1 = g1 at *
  generalize w.heap.size = g0 at *
  go_loopw [6] (fun i wr => ∃ k : Nat, i = .int .i64 k ∧ k ≤ 5 ∧ Sp w0 F0 wr (boxR g0 (row64 (plusUp n m k)) 191 :: boxR g1 (row64 m) 191 :: boxR g2 (row64 zero5) 191 :: L)) (fun i _ => 5 - (intOf i).toNat)
  case atStart => exact ⟨0, rfl, by decide, HS1.out.pull2.under Sp.pull1⟩
  case round =>
    clear HS1
    obtain ⟨k, rfl, hk, S⟩ := hrel
    have HS := Lib.hid S
    have HL := Lib.hid (plusUp_limbs HN.out m k)
    clear S
    by_cases hlt : k < 5
    · have hlt' : (k : Int) < 5 := by omega
      have cn := HS.out.at64 (i := k) (by rw [HL.out.1]; exact hlt)
      have cm := HS.out.pull1.at64 (i := k) (by rw [HM.out.1]; exact hlt)
      have fn := HS.out.free k
      have HP := Lib.hid (HS.out.put64 k (((plusUp n m k).getD k 0 + m.getD k 0) % 18446744073709551616) (plusUp n m (k + 1)) rfl).drew
      have HE := Lib.hid (add_64 ((plusUp n m k).getD k 0) (m.getD k 0))
      generalize (plusUp n m k).getD k 0 = x at *
      generalize m.getD k 0 = y at *
      go_wp2_with fail
      go_region
      all_goals
        go_wp2_with fail
        go_roundw
        case rel => exact ⟨k + 1, by go_num, by omega, by rw [HE.out]; exact HP.out⟩
        case measure => simp [intOf]; omega
    · obtain rfl : k = 5 := by omega
      have HP := Lib.hid (HS.out.pull2.setRow (row64 (plusUp n m 5)))
      have bx := HS.out.boxed
      have b2 := HS.out.pull2.boxed
      go_wp2_with (first
        | refine wpList_load_row rfl 191 _ rfl g0 rfl 191 (row64 (plusUp n m 5)) (0, 0) _ bx Tryz.underlying191 rfl (info5_of HL.out) ?_
        | refine wpList_store_row rfl 191 _ _ rfl g2 (row64 (plusUp n m 5)) rfl rfl 191 _ b2 (info5_of HL.out) (row64_same zero5_limbs HL.out) (row64_one _) ?_)
      refine bodyPost_ret (results_cell_row rfl _ _ g2 191 (row64 (plusUp n m 5)) (0, 0) _ rfl HP.out.boxed Tryz.underlying191 rfl (info5_of HL.out)) rfl ?_
      exact ⟨rfl, HP.out.drop.drop.drop⟩
theorem shr_26 (a : Nat) : ((a : Int) / 67108864) = ((a / 67108864 : Nat) : Int) := by omega
theorem and_26 (a : Nat) (ha : a < 18446744073709551616) : bits .and .u64 (a : Int) 67108863 = ((a % 67108864 : Nat) : Int) := by
  have e : a % 67108864 = a &&& 67108863 := (Nat.and_two_pow_sub_one_eq_mod a 26).symm
  rw [e]
  exact u64_and_nat a 67108863 ha (by decide)
theorem mul_64 (a b : Nat) : IntKind.u64.wrap ((a : Int) * (b : Int)) = (a * b % 18446744073709551616 : Nat) := by
  rw [IntKind.wrap_u64, ← Int.natCast_mul]
  generalize a * b = m
  omega
set_option maxRecDepth 100000 in
set_option maxHeartbeats 2000000 in
theorem poCarry (n : List Nat) (hn : Limbs n) (S : Sp w0 F0 w L) : Calls Tryz.prog 193 #[.agg (row64 n)] w fun e w2 => e = .returned (.agg (row64 (carryN n 2))) ∧ Sp w0 F0 w2 L := by
  have HN := Lib.hid hn
  have HS0 := Lib.hid ((S.box (row64 n) 191).box (row64 zero5) 191)
  have hsz : ∀ (w : World) (o : Obj), (w.alloc o).heap.size = w.heap.size + 1 := fun _ o => Array.size_push _
  simp only [hsz] at HS0
  clear S hn hsz
  go_enter Tryz.func193, Tryz.ntmps193
  go_wp2_with fail
  have HS1 : Hid (Sp w0 F0 ((w.alloc (.cells (row64 n) 191)).alloc (.cells #[.int .u64 0, .int .u64 0, .int .u64 0, .int .u64 0, .int .u64 0] 191)) _) := HS0
  clear HS0
  generalize ((w.alloc (.cells (row64 n) 191)).alloc (.cells #[.int .u64 0, .int .u64 0, .int .u64 0, .int .u64 0, .int .u64 0] 191)) = w1 at *
  generalize w.heap.size + 1 = g1 at *
  generalize w.heap.size = g0 at *
  go_loopw [5] (fun i wr => ∃ k : Nat, i = .int .i64 k ∧ k ≤ 2 ∧ Sp w0 F0 wr (boxR g0 (row64 (carryN n k)) 191 :: boxR g1 (row64 zero5) 191 :: L)) (fun i _ => 2 - (intOf i).toNat)
  case atStart => exact ⟨0, rfl, by decide, HS1.out.pull1⟩
  case round =>
    clear HS1
    obtain ⟨k, rfl, hk, S⟩ := hrel
    have HS := Lib.hid S
    have HL := Lib.hid (carryN_limbs HN.out k)
    clear S
    by_cases hlt : k < 2
    · have hlt' : (k : Int) < 2 := by omega
      have HE : Hid (carry1 (carryN n k) = carryN n (k + 1)) := rfl
      generalize carryN n k = l at *
      go_wp2_with fail
      go_loopw [3, 7] (fun c j wq => ∃ m : Nat, j = .int .i64 m ∧ c = .int .u64 (carryUp l m).2 ∧ m ≤ 5 ∧ Sp w0 F0 wq (boxR g0 (row64 (carryUp l m).1) 191 :: boxR g1 (row64 zero5) 191 :: L)) (fun _ j _ => 5 - (intOf j).toNat)
      case atStart => exact ⟨0, rfl, rfl, by decide, HS.out⟩
      case round =>
        clear HS
        obtain ⟨m, rfl, rfl, hm, S⟩ := hrel
        have HS2 := Lib.hid S
        have HL2 := Lib.hid (carryUp_limbs HL.out m)
        have HC := Lib.hid (carryUp_lt l m)
        clear S
        by_cases hlm : m < 5
        · have hlm' : (m : Int) < 5 := by omega
          have HC2 : Hid ((carryUp l (m + 1)).2 = ((carryUp l m).1.getD m 0 + (carryUp l m).2) % 18446744073709551616 / 67108864) := rfl
          have HC1 : Hid ((carryUp l (m + 1)).1 = (carryUp l m).1.set m (((carryUp l m).1.getD m 0 + (carryUp l m).2) % 18446744073709551616 % 67108864)) := rfl
          have cn := HS2.out.at64 (i := m) (by rw [HL2.out.1]; exact hlm)
          have fn := HS2.out.free m
          obtain ⟨⟨x, hx⟩, ⟨y, hy⟩⟩ : (∃ x, (carryUp l m).1.getD m 0 = x) ∧ ∃ y, (carryUp l m).2 = y := ⟨⟨_, rfl⟩, ⟨_, rfl⟩⟩
          rw [hx] at cn HC1 HC2
          rw [hy] at HC1 HC2
          have HE2 := Lib.hid (add_64 x y)
          have HP1 := HS2.out.put64 m ((x + y) % 18446744073709551616) _ rfl
          generalize hz : (x + y) % 18446744073709551616 = z at *
          have HZ : Hid (z < 18446744073709551616) := by rw [← hz]; exact Lib.hid (Nat.mod_lt _ (by decide))
          have HA := Lib.hid (and_26 z HZ.out)
          have HSH := Lib.hid (shr_26 z)
          have HSS : Hid (((carryUp l m).1.set m z).set m (z % 67108864) = (carryUp l (m + 1)).1) := by
            unfold Hid
            rw [HC1.out, List.set_set]
          have HP := Lib.hid (HP1.put64 m (z % 67108864) _ HSS.out)
          have HP1 := Lib.hid HP1
          clear hx hz HC1 HL2
          rw [hy]
          clear hy
          go_wp2_with fail
          refine ⟨⟨m + 1, by go_num, ?_, by omega, ?_⟩, by simp [intOf]; omega⟩
          · rw [HE2.out, HSH.out, HC2.out]
          · rw [HE2.out, HA.out]
            exact HP.out
        · obtain rfl : m = 5 := by omega
          have cn := HS2.out.at64 (i := 0) (by rw [HL2.out.1]; decide)
          have fn := HS2.out.free 0
          have HM := Lib.hid (mul_64 5 (carryUp l 5).2)
          have HE2 := Lib.hid (add_64 ((carryUp l 5).1.getD 0 0) (5 * (carryUp l 5).2 % 18446744073709551616))
          have HP := Lib.hid (HS2.out.put64 0 (((carryUp l 5).1.getD 0 0 + 5 * (carryUp l 5).2 % 18446744073709551616) % 18446744073709551616) (carry1 l) rfl)
          rw [HE.out] at HP
          generalize (carryUp l 5).1.getD 0 0 = x at *
          generalize (carryUp l 5).2 = y at *
          go_wp2_with fail
          refine ⟨⟨k + 1, by go_num, by omega, ?_⟩, by simp [intOf]; omega⟩
          rw [← HE2.out, ← HM.out] at HP
          exact HP.out
    · obtain rfl : k = 2 := by omega
      have HP := Lib.hid (HS.out.pull1.setRow (row64 (carryN n 2)))
      have bx := HS.out.boxed
      have b2 := HS.out.pull1.boxed
      go_wp2_with (first
        | refine wpList_load_row rfl 191 _ rfl g0 rfl 191 (row64 (carryN n 2)) (0, 0) _ bx Tryz.underlying191 rfl (info5_of HL.out) ?_
        | refine wpList_store_row rfl 191 _ _ rfl g1 (row64 (carryN n 2)) rfl rfl 191 _ b2 (info5_of HL.out) (row64_same zero5_limbs HL.out) (row64_one _) ?_)
      refine bodyPost_ret (results_cell_row rfl _ _ g1 191 (row64 (carryN n 2)) (0, 0) _ rfl HP.out.boxed Tryz.underlying191 rfl (info5_of HL.out)) rfl ?_
      exact ⟨rfl, HP.out.drop.drop⟩
end
end Go.Proofs.YtkenacggjffjnaaGreatDoor

/-! PoX -/
namespace Go.Proofs.YtkenacggjffjnaaGreatDoor
open Go.RowKit

section
variable {w0 w : World} {F0 : List Nat} {L : List Res} {v : Value}
set_option maxRecDepth 100000 in
set_option maxHeartbeats 2000000 in
theorem poTimes (n m : List Nat) (hn : Limbs n) (hm : Limbs m) (S : Sp w0 F0 w L) : Calls Tryz.prog 192 #[.agg (row64 n), .agg (row64 m)] w fun e w2 => e = .returned (.agg (row64 (times5 n m))) ∧ Sp w0 F0 w2 L := by
  have HN := Lib.hid hn
  have HM := Lib.hid hm
  have HS0 := Lib.hid ((((S.box (row64 n) 191).box (row64 m) 191).box (row64 zero5) 191).box (row64 zero5) 191)
  have hsz : ∀ (w : World) (o : Obj), (w.alloc o).heap.size = w.heap.size + 1 := fun _ o => Array.size_push _
  simp only [hsz] at HS0
  clear S hn hm hsz
  go_enter Tryz.func192, Tryz.ntmps192
  go_wp2_with fail
  have HS1 : Hid (Sp w0 F0 ((((w.alloc (.cells (row64 n) 191)).alloc (.cells (row64 m) 191)).alloc (.cells #[.int .u64 0, .int .u64 0, .int .u64 0, .int .u64 0, .int .u64 0] 191)).alloc (.cells #[.int .u64 0, .int .u64 0, .int .u64 0, .int .u64 0, .int .u64 0] 191)) _) := HS0
  clear HS0
  generalize ((((w.alloc (.cells (row64 n) 191)).alloc (.cells (row64 m) 191)).alloc (.cells #[.int .u64 0, .int .u64 0, .int .u64 0, .int .u64 0, .int .u64 0] 191)).alloc (.cells #[.int .u64 0, .int .u64 0, .int .u64 0, .int .u64 0, .int .u64 0] 191)) = w1 at *
  generalize w.heap.size + 1 + 1 + 1 = g3 at *
  generalize w.heap.size + 1 + 1 = g2 at *
  generalize w.heap.size + 1 = g1 at *
  generalize w.heap.size = g0 at *
  go_loopw [9] (fun i wr => ∃ k : Nat, i = .int .i64 k ∧ k ≤ 5 ∧ Sp w0 F0 wr (boxR g3 (row64 (timesUp n m k)) 191 :: boxR g2 (row64 zero5) 191 :: boxR g1 (row64 m) 191 :: boxR g0 (row64 n) 191 :: L)) (fun i _ => 5 - (intOf i).toNat)
  case atStart => exact ⟨0, rfl, by decide, HS1.out⟩
  case round =>
    clear HS1
    obtain ⟨k, rfl, hk, S⟩ := hrel
    have HS := Lib.hid S
    have HL := Lib.hid (timesUp_limbs n m k)
    clear S
    by_cases hlt : k < 5
    · have hlt' : (k : Int) < 5 := by omega
      have HE : Hid (timesIn n m k (timesUp n m k) 5 = timesUp n m (k + 1)) := rfl
      generalize timesUp n m k = l at *
      go_wp2_with fail
      go_loopw [12] (fun j wq => ∃ p : Nat, j = .int .i64 p ∧ p ≤ 5 ∧ Sp w0 F0 wq (boxR g3 (row64 (timesIn n m k l p)) 191 :: boxR g2 (row64 zero5) 191 :: boxR g1 (row64 m) 191 :: boxR g0 (row64 n) 191 :: L)) (fun j _ => 5 - (intOf j).toNat)
      case atStart => exact ⟨0, rfl, by decide, HS.out⟩
      case round =>
        clear HS
        obtain ⟨p, rfl, hp, S⟩ := hrel
        have HS2 := Lib.hid S
        have HL2 := Lib.hid (timesIn_limbs n m k HL.out p)
        clear S
        by_cases hlp : p < 5
        · have hlp' : (p : Int) < 5 := by omega
          have cn := (HS2.out.pull3).at64 (i := k) (by rw [HN.out.1]; exact hlt)
          have cm := (HS2.out.pull2).at64 (i := p) (by rw [HM.out.1]; exact hlp)
          have hq5 : (k + p) % 5 < 5 := Nat.mod_lt _ (by decide)
          have co := HS2.out.at64 (i := (k + p) % 5) (by rw [HL2.out.1]; exact hq5)
          have fo := HS2.out.free ((k + p) % 5)
          have HM1 := Lib.hid (mul_64 (n.getD k 0) (m.getD p 0))
          have HM2 := Lib.hid (mul_64 (n.getD k 0 * m.getD p 0 % 18446744073709551616) 5)
          have HPR : Hid (prod5 n m k p = if 5 ≤ k + p then n.getD k 0 * m.getD p 0 % 18446744073709551616 * 5 % 18446744073709551616 else n.getD k 0 * m.getD p 0 % 18446744073709551616) := rfl
          have HAD := Lib.hid (fun z => add_64 ((timesIn n m k l p).getD ((k + p) % 5) 0) z)
          have HP := Lib.hid (HS2.out.drew.put64 ((k + p) % 5) (((timesIn n m k l p).getD ((k + p) % 5) 0 + prod5 n m k p) % 18446744073709551616) (timesIn n m k l (p + 1)) rfl)
          generalize (timesIn n m k l p).getD ((k + p) % 5) 0 = x at *
          generalize n.getD k 0 = y at *
          generalize m.getD p 0 = z at *
          go_wp2_with fail
          go_region
          all_goals
            by_cases h5 : 5 ≤ k + p
            · have h5' : (5 : Int) ≤ k + p := by omega
              have HPR2 := Lib.hid (HPR.out.trans (if_pos h5))
              clear HPR
              go_wp2_with fail
              refine ⟨⟨p + 1, by go_num, by omega, ?_⟩, by simp [intOf]; omega⟩
              rw [← HAD.out, HPR2.out, ← HM2.out, ← HM1.out] at HP
              exact HP.out
            · have h5' : ¬ (5 : Int) ≤ k + p := by omega
              have HPR2 := Lib.hid (HPR.out.trans (if_neg h5))
              clear HPR
              go_wp2_with fail
              refine ⟨⟨p + 1, by go_num, by omega, ?_⟩, by simp [intOf]; omega⟩
              rw [← HAD.out, HPR2.out, ← HM1.out] at HP
              exact HP.out
        · obtain rfl : p = 5 := by omega
          go_wp2_with fail
          refine ⟨⟨k + 1, by go_num, by omega, ?_⟩, by simp [intOf]; omega⟩
          rw [← HE.out]
          exact HS2.out
    · obtain rfl : k = 5 := by omega
      have HB := Lib.hid (poCarry (timesUp n m 5) HL.out HS.out)
      have bx := HS.out.boxed
      go_wp2_with (first
        | refine wpList_load_row rfl 191 _ rfl g3 rfl 191 (row64 (timesUp n m 5)) (0, 0) _ bx Tryz.underlying191 rfl (info5_of HL.out) ?_
        | fail)
      refine HB.out.mono ?_
      rintro e w2 ⟨rfl, S⟩
      have HC := Lib.hid (carryN_limbs HL.out 2)
      have HS2 := Lib.hid S.pull1
      have HP := Lib.hid (HS2.out.setRow (row64 (carryN (timesUp n m 5) 2)))
      have b2 := HS2.out.boxed
      clear S bx
      go_wp2_with (first
        | refine wpList_store_row rfl 191 _ _ rfl g2 (row64 (carryN (timesUp n m 5) 2)) rfl rfl 191 _ b2 (info5_of HC.out) (row64_same zero5_limbs HC.out) (row64_one _) ?_
        | fail)
      refine bodyPost_ret (results_cell_row rfl _ _ g2 191 (row64 (carryN (timesUp n m 5) 2)) (0, 0) _ rfl HP.out.boxed Tryz.underlying191 rfl (info5_of HC.out)) rfl ?_
      exact ⟨rfl, HP.out.drop.drop.drop.drop⟩
theorem shl_64 (c : UInt8) (p : Nat) : IntKind.u64.wrap (IntKind.u64.wrap (c.toNat : Int) * 2 ^ p) = ((c.toNat * 2 ^ p % 18446744073709551616 : Nat) : Int) := by
  have e : IntKind.u64.wrap (c.toNat : Int) = (c.toNat : Int) := by
    have := c.toNat_lt
    rw [IntKind.wrap_u64]
    omega
  have h2 : ((c.toNat * 2 ^ p : Nat) : Int) = (c.toNat : Int) * 2 ^ p := by rw [Int.natCast_mul, Int.natCast_pow]; rfl
  rw [e, ← h2, IntKind.wrap_u64]
  generalize c.toNat * 2 ^ p = m
  omega
theorem addAt_next (l : List Nat) (i x : Nat) : (addAt l i x).getD (i + 1) 0 = l.getD (i + 1) 0 := by
  unfold addAt
  simp [List.getD_eq_getElem?_getD, List.getElem?_set]
set_option maxRecDepth 100000 in
set_option maxHeartbeats 2000000 in
theorem poRead (s : Bs) (hs : s.length ≤ 17) (S : Sp w0 F0 w L) : Calls Tryz.prog 178 #[.string ⟨s.toArray⟩] w fun e w2 => e = .returned (.agg (row64 (readUp s s.length))) ∧ Sp w0 F0 w2 L := by
  have hs' : (s.length : Int) ≤ 17 := by omega
  have HS0 := Lib.hid ((S.box (row64 zero5) 191).box (row64 zero5) 191)
  have hsz : ∀ (w : World) (o : Obj), (w.alloc o).heap.size = w.heap.size + 1 := fun _ o => Array.size_push _
  simp only [hsz] at HS0
  clear S hsz
  go_enter Tryz.func178, Tryz.ntmps178
  go_wp2_with fail
  have HS1 : Hid (Sp w0 F0 ((w.alloc (.cells #[.int .u64 0, .int .u64 0, .int .u64 0, .int .u64 0, .int .u64 0] 191)).alloc (.cells #[.int .u64 0, .int .u64 0, .int .u64 0, .int .u64 0, .int .u64 0] 191)) _) := HS0
  clear HS0
  generalize ((w.alloc (.cells #[.int .u64 0, .int .u64 0, .int .u64 0, .int .u64 0, .int .u64 0] 191)).alloc (.cells #[.int .u64 0, .int .u64 0, .int .u64 0, .int .u64 0, .int .u64 0] 191)) = w1 at *
  generalize w.heap.size + 1 = g1 at *
  generalize w.heap.size = g0 at *
  go_loopw [11] (fun i wr => ∃ k : Nat, i = .int .i64 k ∧ k ≤ s.length ∧ Sp w0 F0 wr (boxR g1 (row64 (readUp s k)) 191 :: boxR g0 (row64 zero5) 191 :: L)) (fun i _ => s.length - (intOf i).toNat)
  case atStart => exact ⟨0, rfl, Nat.zero_le _, HS1.out⟩
  case round =>
    clear HS1
    obtain ⟨k, rfl, hk, S⟩ := hrel
    have HS := Lib.hid S
    have HL := Lib.hid (readUp_limbs s k)
    clear S
    by_cases hlt : k < s.length
    · have hlt' : (k : Int) < s.length := by omega
      have hix := fun w' => idx_str s k hlt (k : Int) rfl w'
      have HG : Hid (s.getD k 0 = s[k]) := by unfold Hid; simp [List.getD_eq_getElem?_getD, List.getElem?_eq_getElem hlt]
      have hb5 : 8 * k / 26 < 5 := by omega
      have cn := HS.out.at64 (i := 8 * k / 26) (by rw [HL.out.1]; exact hb5)
      have fn := HS.out.free (8 * k / 26)
      have HV := Lib.hid (shl_64 s[k] (8 * k % 26))
      have HU : Hid (readUp s (k + 1) = if 8 * k / 26 + 1 < 5 then addAt (addAt (readUp s k) (8 * k / 26) ((s.getD k 0).toNat * 2 ^ (8 * k % 26) % 18446744073709551616 % 67108864)) (8 * k / 26 + 1) ((s.getD k 0).toNat * 2 ^ (8 * k % 26) % 18446744073709551616 / 67108864) else addAt (readUp s k) (8 * k / 26) ((s.getD k 0).toNat * 2 ^ (8 * k % 26) % 18446744073709551616 % 67108864)) := rfl
      rw [HG.out] at HU
      have HLT : Hid (s[k].toNat * 2 ^ (8 * k % 26) % 18446744073709551616 < 18446744073709551616) := Lib.hid (Nat.mod_lt _ (by decide))
      clear HG
      generalize s[k] = c at *
      generalize hvv : c.toNat * 2 ^ (8 * k % 26) % 18446744073709551616 = vv at *
      clear hvv
      have HA := Lib.hid (and_26 vv HLT.out)
      have HSH := Lib.hid (shr_26 vv)
      have HAD := Lib.hid (add_64 ((readUp s k).getD (8 * k / 26) 0) (vv % 67108864))
      have HP := Lib.hid (HS.out.put64 (8 * k / 26) (((readUp s k).getD (8 * k / 26) 0 + vv % 67108864) % 18446744073709551616) (addAt (readUp s k) (8 * k / 26) (vv % 67108864)) rfl)
      have HL2 := Lib.hid (HL.out.addAt (8 * k / 26) (vv % 67108864))
      have HN := Lib.hid (addAt_next (readUp s k) (8 * k / 26) (vv % 67108864))
      have HC2 : Hid (8 * k / 26 + 1 < 5 → wr.cell? ⟨g1, 8 * k / 26 + 1, none⟩ = some (.int .u64 ((readUp s k).getD (8 * k / 26 + 1) 0))) := fun h => HS.out.at64 (by rw [HL.out.1]; exact h)
      have HF2 := Lib.hid (HS.out.free (8 * k / 26 + 1))
      generalize (readUp s k).getD (8 * k / 26) 0 = x at *
      generalize addAt (readUp s k) (8 * k / 26) (vv % 67108864) = l2 at *
      generalize (readUp s k).getD (8 * k / 26 + 1) 0 = y at *
      rw [← HAD.out, ← HA.out, ← HV.out] at HP
      by_cases h5 : 8 * k / 26 + 1 < 5
      · have h5' : (8 * (k : Int)) / 26 + 1 < 5 := by omega
        have HU2 := Lib.hid (HU.out.trans (if_pos h5))
        have cn2 := HC2.out h5
        have fn2 := HF2.out
        have HAD2 := Lib.hid (add_64 y (vv / 67108864))
        have HP2 := Lib.hid (HP.out.put64 (8 * k / 26 + 1) ((y + vv / 67108864) % 18446744073709551616) (readUp s (k + 1)) (by rw [HU2.out]; unfold addAt; rw [HN.out]))
        rw [← HAD2.out, ← HSH.out, ← HV.out] at HP2
        clear HU
        go_wp2_with fail
        exact ⟨⟨k + 1, by go_num, by omega, HP2.out⟩, by simp [intOf]; omega⟩
      · have h5' : ¬ (8 * (k : Int)) / 26 + 1 < 5 := by omega
        have HU2 := Lib.hid (HU.out.trans (if_neg h5))
        rw [← HU2.out] at HP
        clear HU
        go_wp2_with fail
        exact ⟨⟨k + 1, by go_num, by omega, HP.out⟩, by simp [intOf]; omega⟩
    · obtain rfl : k = s.length := by omega
      have HP := Lib.hid (HS.out.pull1.setRow (row64 (readUp s s.length)))
      have bx := HS.out.boxed
      have b2 := HS.out.pull1.boxed
      go_wp2_with (first
        | refine wpList_load_row rfl 191 _ rfl g1 rfl 191 (row64 (readUp s s.length)) (0, 0) _ bx Tryz.underlying191 rfl (info5_of HL.out) ?_
        | refine wpList_store_row rfl 191 _ _ rfl g0 (row64 (readUp s s.length)) rfl rfl 191 _ b2 (info5_of HL.out) (row64_same zero5_limbs HL.out) (row64_one _) ?_)
      refine bodyPost_ret (results_cell_row rfl _ _ g0 191 (row64 (readUp s s.length)) (0, 0) _ rfl HP.out.boxed Tryz.underlying191 rfl (info5_of HL.out)) rfl ?_
      exact ⟨rfl, HP.out.drop.drop⟩
end
end Go.Proofs.YtkenacggjffjnaaGreatDoor

/-! PoY -/
namespace Go.Proofs.YtkenacggjffjnaaGreatDoor
open Go.RowKit

section
variable {w0 w : World} {F0 : List Nat} {L : List Res} {v : Value}
theorem zero_26 (z : Nat) : (((z / 67108864 : Nat) : Int) == 0) = decide (z / 67108864 = 0) := by
  by_cases h : z / 67108864 = 0 <;> simp [h]
  omega
set_option maxRecDepth 100000 in
set_option maxHeartbeats 4000000 in
theorem poWhole (n : List Nat) (hn : Limbs n) (S : Sp w0 F0 w L) : Calls Tryz.prog 180 #[.agg (row64 n)] w fun e w2 => e = .returned (.agg (row64 (whole5 n))) ∧ Sp w0 F0 w2 L := by
  have HN := Lib.hid hn
  have HS0 := Lib.hid ((S.box (row64 n) 191).box (row64 zero5) 191)
  have hsz : ∀ (w : World) (o : Obj), (w.alloc o).heap.size = w.heap.size + 1 := fun _ o => Array.size_push _
  simp only [hsz] at HS0
  have HWH : Hid (whole5 n = if (overUp (addAt (carryN (carryN n 2) 2) 0 5) 4).getD 4 0 / 67108864 = 0 then carryN (carryN n 2) 2 else (overUp (addAt (carryN (carryN n 2) 2) 0 5) 4).set 4 ((overUp (addAt (carryN (carryN n 2) 2) 0 5) 4).getD 4 0 % 67108864)) := rfl
  clear S hn hsz
  go_enter Tryz.func180, Tryz.ntmps180
  go_upto_region 1 with (fail)
  have HS1 : Hid (Sp w0 F0 ((w.alloc (.cells (row64 n) 191)).alloc (.cells #[.int .u64 0, .int .u64 0, .int .u64 0, .int .u64 0, .int .u64 0] 191)) _) := HS0
  clear HS0
  generalize ((w.alloc (.cells (row64 n) 191)).alloc (.cells #[.int .u64 0, .int .u64 0, .int .u64 0, .int .u64 0, .int .u64 0] 191)) = w1 at *
  generalize w.heap.size + 1 = g1 at *
  generalize w.heap.size = g0 at *
  have HS2 := Lib.hid HS1.out.pull1
  have bx := HS2.out.boxed
  clear HS1
  go_wp2_with (first
    | refine wpList_load_row rfl 191 _ rfl g0 rfl 191 (row64 n) (0, 0) _ bx Tryz.underlying191 rfl (info5_of HN.out) ?_
    | fail)
  refine (poCarry n HN.out HS2.out).mono ?_
  rintro e w2 ⟨rfl, S⟩
  have HN2 := Lib.hid (carryN_limbs HN.out 2)
  have HS3 := Lib.hid S
  clear S HS2 bx
  go_wp2_with fail
  refine (poCarry _ HN2.out HS3.out).mono ?_
  rintro e w3 ⟨rfl, S⟩
  have HN3 := Lib.hid (carryN_limbs HN2.out 2)
  have HS4 := Lib.hid S
  clear S HS3 HN2
  generalize carryN (carryN n 2) 2 = l at *
  have b4 := HS4.out.boxed
  have HS5 := Lib.hid (HS4.out.setRow (row64 l))
  clear HS4
  go_upto_region 2 with (first
    | refine wpList_store_row rfl 191 _ _ rfl g0 (row64 l) rfl rfl 191 _ b4 (info5_of HN3.out) (row64_same HN.out HN3.out) (row64_one _) ?_
    | fail)
  generalize w3.setRow g0 (row64 l) = w4 at *
  clear b4
  have bx := HS5.out.boxed
  have b6 : (w4.alloc (.cells #[.int .u64 0, .int .u64 0, .int .u64 0, .int .u64 0, .int .u64 0] 191)).heap[w4.heap.size]? = some (.cells (row64 zero5) 191 (0, 0)) := (MapKept.heap_alloc w4 _).1
  have HS6 : Hid (Sp w0 F0 ((w4.alloc (.cells #[.int .u64 0, .int .u64 0, .int .u64 0, .int .u64 0, .int .u64 0] 191)).setRow w4.heap.size (row64 l)) _) := Lib.hid ((HS5.out.box (row64 zero5) 191).setRow (row64 l))
  clear HS5
  go_upto_region 3 with (first
    | refine wpList_load_row rfl 191 _ rfl g0 rfl 191 (row64 l) (0, 0) _ bx Tryz.underlying191 rfl (info5_of HN3.out) ?_
    | refine wpList_store_row rfl 191 _ _ rfl w4.heap.size (row64 l) rfl rfl 191 _ b6 (info5_of HN3.out) (row64_same zero5_limbs HN3.out) (row64_one _) ?_)
  generalize ((w4.alloc (.cells #[.int .u64 0, .int .u64 0, .int .u64 0, .int .u64 0, .int .u64 0] 191)).setRow w4.heap.size (row64 l)) = w5 at *
  generalize w4.heap.size = g2 at *
  clear bx b6
  have c0 := HS6.out.at64 (i := 0) (by rw [HN3.out.1]; decide)
  have f0 := HS6.out.free 0
  have HAD := Lib.hid (add_64 (l.getD 0 0) 5)
  have HS7 := Lib.hid (HS6.out.put64 0 ((l.getD 0 0 + 5) % 18446744073709551616) (addAt l 0 5) rfl)
  have HM := Lib.hid (HN3.out.addAt 0 5)
  generalize l.getD 0 0 = x at *
  generalize addAt l 0 5 = m at *
  clear HS6
  rw [← HAD.out] at HS7
  have HS8 : Hid (Sp w0 F0 (w5.setCell ⟨g2, 0, none⟩ (.int .u64 (IntKind.u64.wrap ((x : Int) + 5)))) _) := HS7
  clear HS7 HAD
  go_wp2_with fail
  clear c0 f0
  generalize w5.setCell ⟨g2, 0, none⟩ (.int .u64 (IntKind.u64.wrap ((x : Int) + 5))) = w6 at *
  go_loopw [13] (fun i wr => ∃ k : Nat, i = .int .i64 k ∧ k ≤ 4 ∧ Sp w0 F0 wr (boxR g2 (row64 (overUp m k)) 191 :: boxR g0 (row64 l) 191 :: boxR g1 (row64 zero5) 191 :: L)) (fun i _ => 4 - (intOf i).toNat)
  case atStart => exact ⟨0, rfl, by decide, HS8.out⟩
  case round =>
    clear HS8
    obtain ⟨k, rfl, hk, S⟩ := hrel
    have HS := Lib.hid S
    have HL := Lib.hid (overUp_limbs HM.out k)
    clear S
    by_cases hlt : k < 4
    · have hlt' : (k : Int) < 4 := by omega
      have HU : Hid (overUp m (k + 1) = (addAt (overUp m k) (k + 1) ((overUp m k).getD k 0 / 67108864)).set k ((addAt (overUp m k) (k + 1) ((overUp m k).getD k 0 / 67108864)).getD k 0 % 67108864)) := rfl
      have HG : Hid ((addAt (overUp m k) (k + 1) ((overUp m k).getD k 0 / 67108864)).getD k 0 = (overUp m k).getD k 0) := by
        unfold addAt Hid
        simp [List.getD_eq_getElem?_getD, List.getElem?_set]
      rw [HG.out] at HU
      have HLT := Lib.hid (HL.out.getD k)
      have ck := HS.out.at64 (i := k) (by rw [HL.out.1]; omega)
      have ck1 := HS.out.at64 (i := k + 1) (by rw [HL.out.1]; omega)
      have fk := HS.out.free k
      have fk1 := HS.out.free (k + 1)
      have HP := HS.out.put64 (k + 1) (((overUp m k).getD (k + 1) 0 + (overUp m k).getD k 0 / 67108864) % 18446744073709551616) (addAt (overUp m k) (k + 1) ((overUp m k).getD k 0 / 67108864)) rfl
      have HP2 := Lib.hid (HP.put64 k ((overUp m k).getD k 0 % 67108864) _ HU.out.symm).drew
      clear HP HU HG
      have HAD := Lib.hid (add_64 ((overUp m k).getD (k + 1) 0) ((overUp m k).getD k 0 / 67108864))
      generalize (overUp m k).getD (k + 1) 0 = y at *
      generalize (overUp m k).getD k 0 = x at *
      have HSH := Lib.hid (shr_26 x)
      have HA := Lib.hid (and_26 x HLT.out)
      rw [← HAD.out, ← HSH.out, ← HA.out] at HP2
      go_wp2_with fail
      go_region
      all_goals
        go_wp2_with fail
        go_roundw
        case rel => exact ⟨k + 1, by go_num, by omega, HP2.out⟩
        case measure => simp [intOf]; omega
    · obtain rfl : k = 4 := by omega
      have c4 := HS.out.at64 (i := 4) (by rw [HL.out.1]; decide)
      have f4 := HS.out.free 4
      have HLT := Lib.hid (HL.out.getD 4)
      have HSH := Lib.hid (shr_26 ((overUp m 4).getD 4 0))
      have HZ := Lib.hid (zero_26 ((overUp m 4).getD 4 0))
      have HA := Lib.hid (and_26 ((overUp m 4).getD 4 0) HLT.out)
      have HP := Lib.hid (HS.out.put64 4 ((overUp m 4).getD 4 0 % 67108864) _ rfl)
      by_cases hz : (overUp m 4).getD 4 0 / 67108864 = 0
      · have HW := Lib.hid (HWH.out.trans (if_pos hz))
        have HR := Lib.hid (HS.out.pull2.setRow (row64 l))
        have bx := HS.out.pull1.boxed
        have b2 := HS.out.pull2.boxed
        have hzb : (((overUp m 4).getD 4 0 : Nat) : Int) / 67108864 = 0 := by rw [HSH.out, hz]; rfl
        clear HWH
        generalize (overUp m 4).getD 4 0 = z at *
        go_wp2_with (first
          | refine wpList_load_row rfl 191 _ rfl g0 rfl 191 (row64 l) (0, 0) _ bx Tryz.underlying191 rfl (info5_of HN3.out) ?_
          | refine wpList_store_row rfl 191 _ _ rfl g1 (row64 l) rfl rfl 191 _ b2 (info5_of HN3.out) (row64_same zero5_limbs HN3.out) (row64_one _) ?_)
        refine bodyPost_ret (results_cell_row rfl _ _ g1 191 (row64 l) (0, 0) _ rfl HR.out.boxed Tryz.underlying191 rfl (info5_of HN3.out)) rfl ?_
        exact ⟨by rw [HW.out], HR.out.drop.drop.drop⟩
      · have HW := Lib.hid (HWH.out.trans (if_neg hz))
        have hzb : ¬ (((overUp m 4).getD 4 0 : Nat) : Int) / 67108864 = 0 := by rw [HSH.out]; omega
        have HLS := Lib.hid (HL.out.set 4 ((overUp m 4).getD 4 0 % 67108864) (Nat.lt_of_lt_of_le (Nat.mod_lt _ (by decide)) (by decide)))
        clear HWH
        generalize (overUp m 4).set 4 ((overUp m 4).getD 4 0 % 67108864) = q at *
        generalize (overUp m 4).getD 4 0 = z at *
        rw [← HA.out] at HP
        have HR := Lib.hid (HP.out.pull2.setRow (row64 q))
        have bx := HP.out.boxed
        have b2 := HP.out.pull2.boxed
        go_wp2_with (first
          | refine wpList_load_row rfl 191 _ rfl g2 rfl 191 (row64 q) (0, 0) _ bx Tryz.underlying191 rfl (info5_of HLS.out) ?_
          | refine wpList_store_row rfl 191 _ _ rfl g1 (row64 q) rfl rfl 191 _ b2 (info5_of HLS.out) (row64_same zero5_limbs HLS.out) (row64_one _) ?_)
        refine bodyPost_ret (results_cell_row rfl _ _ g1 191 (row64 q) (0, 0) _ rfl HR.out.boxed Tryz.underlying191 rfl (info5_of HLS.out)) rfl ?_
        exact ⟨by rw [HW.out], HR.out.drop.drop.drop⟩
def bytesUp (l : List Nat) (k : Nat) : Bs := (List.range k).map (fun i => UInt8.ofNat (byte5 l i % 256)) ++ List.replicate (16 - k) 0
theorem bytesUp_length (l : List Nat) (k : Nat) (h : k ≤ 16) : (bytesUp l k).length = 16 := by simp [bytesUp]; omega
theorem bytesUp_step (l : List Nat) (k : Nat) (h : k < 16) : (rowB (bytesUp l k)).setIfInBounds k (.int .u8 (((byte5 l k : Nat) : Int) % 256)) = rowB (bytesUp l (k + 1)) := by
  have e1 : List.replicate (16 - k) (0 : UInt8) = 0 :: List.replicate (16 - (k + 1)) 0 := by
    rw [show 16 - k = (16 - (k + 1)) + 1 by omega, List.replicate_succ]
  have := rowB_set ((List.range k).map (fun i => UInt8.ofNat (byte5 l i % 256))) 0 (UInt8.ofNat (byte5 l k % 256)) (List.replicate (16 - (k + 1)) 0)
  rw [List.length_map, List.length_range] at this
  unfold bytesUp
  rw [e1, u8_wrap, List.range_succ, List.map_append]
  unfold bv at this
  rw [this]
  simp
theorem or_64' (a b : Nat) (ha : a < 18446744073709551616) (hb : b < 18446744073709551616) : bits .or .u64 (a : Int) (b : Int) = ((a ||| b : Nat) : Int) := u64_or_nat a b ha hb
theorem shr_pow (a p : Nat) : ((a : Int) / 2 ^ p) = ((a / 2 ^ p : Nat) : Int) := by
  rw [Int.natCast_ediv, Int.natCast_pow]
  rfl
theorem shl_pow (a p : Nat) : IntKind.u64.wrap ((a : Int) * 2 ^ p) = ((a * 2 ^ p % 18446744073709551616 : Nat) : Int) := by
  have h2 : ((a * 2 ^ p : Nat) : Int) = (a : Int) * 2 ^ p := by rw [Int.natCast_mul, Int.natCast_pow]; rfl
  rw [← h2, IntKind.wrap_u64]
  generalize a * 2 ^ p = m
  omega
set_option maxRecDepth 100000 in
set_option maxHeartbeats 2000000 in
theorem poBytes (n : List Nat) (hn : Limbs n) (S : Sp w0 F0 w L) : Calls Tryz.prog 182 #[.agg (row64 n)] w fun e w2 => e = .returned (.string ⟨(bytes5 n).toArray⟩) ∧ Sp w0 F0 w2 L := by
  have HN := Lib.hid hn
  have HS0 := Lib.hid ((S.box (row64 n) 191).box (rowB (bytesUp n 0)) 5)
  have hsz : ∀ (w : World) (o : Obj), (w.alloc o).heap.size = w.heap.size + 1 := fun _ o => Array.size_push _
  simp only [hsz] at HS0
  have hmk := fun W => run_make_row' (P := Tryz.prog) 44 5 (.int .u8 0) 1 Tryz.underlying44 (by kernel_rfl) rfl .i64 .i64 16 (by omega) (by omega) W
  rw [made_rowB] at hmk
  obtain ⟨A0, hA0⟩ : ∃ A0, rowB (List.replicate 16 0) = A0 := ⟨_, rfl⟩
  have HE0 : Hid (rowB (bytesUp n 0) = A0) := hA0
  rw [hA0] at hmk
  rw [HE0.out] at HS0
  clear S hn hsz hA0
  have hmk : ∀ W, (Instr.makeSlice 44 (.int .i64 16) (.int .i64 16)).run Tryz.prog W = .ok (.slice (some ⟨W.heap.size, 0, none⟩) 16 16) (W.alloc (.cells A0 5)) := hmk
  go_enter Tryz.func182, Tryz.ntmps182
  go_wp2_with fail
  generalize ((w.alloc (.cells (row64 n) 191)).alloc (.cells A0 5)) = w1 at *
  generalize w.heap.size + 1 = g1 at *
  generalize w.heap.size = g0 at *
  clear hmk
  go_loopw [12] (fun i wr => ∃ k : Nat, i = .int .i64 k ∧ k ≤ 16 ∧ Sp w0 F0 wr (boxR g1 (rowB (bytesUp n k)) 5 :: boxR g0 (row64 n) 191 :: L)) (fun i _ => 16 - (intOf i).toNat)
  case atStart => exact ⟨0, rfl, Nat.zero_le _, by rw [HE0.out]; exact HS0.out⟩
  case round =>
    clear HS0 HE0
    obtain ⟨k, rfl, hk, S⟩ := hrel
    have HS := Lib.hid S
    clear S
    by_cases hlt : k < 16
    · have hlt' : (k : Int) < 16 := by omega
      have hb5 : 8 * k / 26 < 5 := by omega
      have cn := HS.out.pull1.at64 (i := 8 * k / 26) (by rw [HN.out.1]; exact hb5)
      have HC2 : Hid (8 * k / 26 + 1 < 5 → wr.cell? ⟨g0, 8 * k / 26 + 1, none⟩ = some (.int .u64 (n.getD (8 * k / 26 + 1) 0))) := fun h => HS.out.pull1.at64 (by rw [HN.out.1]; exact h)
      have co : wr.cell? ⟨g1, k, none⟩ = some (bv ((bytesUp n k)[k]'(by rw [bytesUp_length n k hk]; exact hlt))) := by
        rw [HS.out.cell, rowB_get, List.getElem?_eq_getElem (by rw [bytesUp_length n k hk]; exact hlt)]
        rfl
      have fo := HS.out.free k
      have HV : Hid (byte5 n k = if 8 * k / 26 + 1 < 5 then n.getD (8 * k / 26) 0 / 2 ^ (8 * k % 26) ||| (n.getD (8 * k / 26 + 1) 0 * 2 ^ (26 - 8 * k % 26) % 18446744073709551616) else n.getD (8 * k / 26) 0 / 2 ^ (8 * k % 26)) := rfl
      have HST := Lib.hid (bytesUp_step n k hlt)
      have HP := HS.out.set (o := k) (.int .u8 (((byte5 n k : Nat) : Int) % 256))
      rw [HST.out] at HP
      have HP := Lib.hid HP
      have HX := Lib.hid (HN.out.getD (8 * k / 26))
      generalize n.getD (8 * k / 26) 0 = x at *
      generalize n.getD (8 * k / 26 + 1) 0 = y at *
      generalize byte5 n k = z at *
      clear HST
      by_cases h5 : 8 * k / 26 + 1 < 5
      · have h5' : (8 * (k : Int)) / 26 + 1 < 5 := by omega
        have cn2 := HC2.out h5
        go_wp2_with fail
        have HB : Hid (bits .or .u64 ((x : Int) / 2 ^ (8 * k % 26)) (IntKind.u64.wrap ((y : Int) * 2 ^ (26 - 8 * k % 26))) = (z : Int)) := by
          unfold Hid
          rw [shr_pow, shl_pow, or_64' _ _ (Nat.lt_of_le_of_lt (Nat.div_le_self _ _) HX.out) (Nat.mod_lt _ (by decide)), HV.out, if_pos h5]
        rw [← HB.out] at HP
        exact ⟨⟨k + 1, by go_num, by omega, HP.out⟩, by simp [intOf]; omega⟩
      · have h5' : ¬ (8 * (k : Int)) / 26 + 1 < 5 := by omega
        go_wp2_with fail
        have HB : Hid ((x : Int) / 2 ^ (8 * k % 26) = (z : Int)) := by
          unfold Hid
          rw [shr_pow, HV.out, if_neg h5]
        rw [← HB.out] at HP
        exact ⟨⟨k + 1, by go_num, by omega, HP.out⟩, by simp [intOf]; omega⟩
    · obtain rfl : k = 16 := by omega
      have hb16 : bytesUp n 16 = bytes5 n := by simp [bytesUp, bytes5]
      rw [hb16] at HS
      have hcv := Lib.run_convert_whole (P := Tryz.prog) wr 44 5 9 Tryz.underlying44 Tryz.underlying5 Tryz.underlying9 g1 0 ⟨(bytes5 n).toArray⟩ (fun i hi => by
        have hi' : i < (bytes5 n).length := hi
        rw [Nat.zero_add, HS.out.cell, rowB_get, List.getElem?_eq_getElem hi']
        rfl) 16
      have hz : (⟨(bytes5 n).toArray⟩ : ByteArray).size = 16 := rfl
      rw [hz] at hcv
      clear hb16 hz
      go_wp2_with fail
      go_ret
      exact ⟨rfl, HS.out.drop.drop⟩
theorem and_15 (c : UInt8) : bits .and .u8 (c.toNat : Int) 15 = ((c &&& 15).toNat : Int) := by
  have := u8_and_nat c.toNat 15 c.toNat_lt (by decide)
  rw [UInt8.toNat_and]
  exact this
theorem and_252 (c : UInt8) : bits .and .u8 (c.toNat : Int) 252 = ((c &&& 252).toNat : Int) := by
  have := u8_and_nat c.toNat 252 c.toNat_lt (by decide)
  rw [UInt8.toNat_and]
  exact this
set_option maxRecDepth 100000 in
set_option maxHeartbeats 2000000 in
theorem poClamp (r : Bs) (hr : r.length = 16) (S : Sp w0 F0 w L) : Calls Tryz.prog 177 #[.string ⟨r.toArray⟩] w fun e w2 => e = .returned (.tuple #[.string ⟨(clampUp r 16).toArray⟩, .int .i64 0]) ∧ Sp w0 F0 w2 L := by
  have hcv := run_bytes_of_string (P := Tryz.prog) w 9 44 5 ⟨r.toArray⟩ Tryz.underlying9 Tryz.underlying44 Tryz.underlying5
  have HL := Lib.hid hr
  have HS0 : Hid (Sp w0 F0 (w.alloc (.cells (bytesRow ⟨r.toArray⟩ (grownCap w r.length 0 5)) 5 ((bytesRow ⟨r.toArray⟩ (grownCap w r.length 0 5)).size, (bytesRow ⟨r.toArray⟩ (grownCap w r.length 0 5)).size + 1))).drew (convY w.heap.size r :: L)) := S.convNewY r (grownCap w r.length 0 5)
  unfold Hid at HS0
  rw [hr] at HS0
  have HS0 := Lib.hid HS0
  have hr' : (r.length : Int) = 16 := by omega
  clear S
  go_enter Tryz.func177, Tryz.ntmps177
  go_wp2_with fail
  generalize (w.alloc _).drew = w1 at *
  generalize w.heap.size = g at *
  generalize grownCap w 16 0 5 = cap at *
  clear hcv hr hr'
  go_loopw [13] (fun i wr => ∃ k : Nat, i = .int .i64 k ∧ k ≤ 16 ∧ Sp w0 F0 wr (convY g (clampUp r k) :: L)) (fun i _ => 16 - (intOf i).toNat)
  case atStart => exact ⟨0, rfl, Nat.zero_le _, HS0.out⟩
  case round =>
    clear HS0
    obtain ⟨k, rfl, hk, S⟩ := hrel
    have HS := Lib.hid S
    clear S
    have HLK : Hid ((clampUp r k).length = 16) := by unfold Hid; rw [clampUp_length]; exact HL.out
    by_cases hlt : k < 16
    · have hlt' : (k : Int) < 16 := by omega
      have hk2 : k < (clampUp r k).length := by rw [HLK.out]; exact hlt
      have ck := HS.out.convYCell hk2
      have fk := HS.out.convYFree hk2
      have HG : Hid ((clampUp r k).getD k 0 = (clampUp r k)[k]) := by unfold Hid; simp [List.getD_eq_getElem?_getD, List.getElem?_eq_getElem hk2]
      have HU : Hid (clampUp r (k + 1) = (clampUp r k).set k (clampAt k ((clampUp r k).getD k 0))) := rfl
      rw [HG.out] at HU
      have HP := HS.out.convYSet hk2 (clampAt k (clampUp r k)[k])
      rw [← HU.out] at HP
      have HP := Lib.hid HP
      have HN : Hid (clampAt k (clampUp r k)[k] = (clampUp r k)[k] → Sp w0 F0 wr (convY g (clampUp r (k + 1)) :: L)) := fun h => by
        rw [HU.out, h, List.set_getElem_self]
        exact HS.out
      have HA15 := Lib.hid (and_15 (clampUp r k)[k])
      have HA252 := Lib.hid (and_252 (clampUp r k)[k])
      clear HG HU
      generalize (clampUp r k)[k] = c at *
      unfold bv at ck HP
      by_cases h3 : k % 4 = 3
      · have h3' : (k : Int) % 4 = 3 := by omega
        have HC : Hid (clampAt k c = c &&& 15) := if_pos h3
        rw [HC.out, ← HA15.out] at HP
        clear hk2
        go_wp2_with fail
        exact ⟨⟨k + 1, by go_num, by omega, HP.out⟩, by simp [intOf]; omega⟩
      · have h3' : ¬ (k : Int) % 4 = 3 := by omega
        by_cases h0 : k % 4 = 0 ∧ 0 < k
        · obtain ⟨h0a, h0b⟩ := h0
          have h0' : (k : Int) % 4 = 0 := by omega
          have h0b' : (0 : Int) < k := by omega
          have HC : Hid (clampAt k c = c &&& 252) := (if_neg h3).trans (if_pos ⟨h0a, h0b⟩)
          rw [HC.out, ← HA252.out] at HP
          clear hk2
          go_wp2_with fail
          exact ⟨⟨k + 1, by go_num, by omega, HP.out⟩, by simp [intOf]; omega⟩
        · have HC : Hid (clampAt k c = c) := (if_neg h3).trans (if_neg h0)
          have HP2 := Lib.hid (HN.out HC.out)
          clear hk2 HP HN
          by_cases hk0 : k = 0
          · subst hk0
            go_wp2_with fail
            exact ⟨⟨0 + 1, by go_num, by omega, HP2.out⟩, by simp [intOf]⟩
          · have h0' : ¬ (k : Int) % 4 = 0 := by omega
            go_wp2_with fail
            exact ⟨⟨k + 1, by go_num, by omega, HP2.out⟩, by simp [intOf]; omega⟩
    · obtain rfl : k = 16 := by omega
      have hcv := Lib.run_convert_whole (P := Tryz.prog) wr 44 5 9 Tryz.underlying44 Tryz.underlying5 Tryz.underlying9 g 0 ⟨(clampUp r 16).toArray⟩ (fun i hi => by
        have hi' : i < (clampUp r 16).length := hi
        rw [Nat.zero_add]
        exact HS.out.convYCell hi') cap
      have hz : (⟨(clampUp r 16).toArray⟩ : ByteArray).size = 16 := HLK.out
      rw [hz] at hcv
      have HD := Lib.hid HS.out.drop
      clear HS hz HLK
      go_wp2
      go_ret2
      exact ⟨rfl, HD.out⟩
end
end Go.Proofs.YtkenacggjffjnaaGreatDoor

/-! PoZ -/
namespace Go.Proofs.YtkenacggjffjnaaGreatDoor
open Go.RowKit

section
variable {w0 w : World} {F0 : List Nat} {L : List Res} {v : Value}
theorem limbs5 {l : List Nat} (h : Limbs l) : ∃ a b c d e, l = [a, b, c, d, e] := by
  obtain ⟨h, _⟩ := h
  match l, h with
  | [a, b, c, d, e], _ => exact ⟨a, b, c, d, e, rfl⟩
abbrev polyPart (p r0 r1 r2 r3 r4 s0 s1 s2 s3 s4 a0 a1 a2 a3 a4 : Nat) (rest : Bs) : Res :=
  boxR p #[.int .u64 r0, .int .u64 r1, .int .u64 r2, .int .u64 r3, .int .u64 r4, .int .u64 s0, .int .u64 s1, .int .u64 s2, .int .u64 s3, .int .u64 s4, .int .u64 a0, .int .u64 a1, .int .u64 a2, .int .u64 a3, .int .u64 a4, .string ⟨rest.toArray⟩] 194
theorem Sp.put5 {b : Nat} {T : TypeId} {a0 a1 a2 a3 a4 : Value} (S : Sp w0 F0 w (boxR b #[a0, a1, a2, a3, a4] T :: L)) (u0 u1 u2 u3 u4 : Value) : Sp w0 F0 (((((w.setCell ⟨b, 0, none⟩ u0).setCell ⟨b, 1, none⟩ u1).setCell ⟨b, 2, none⟩ u2).setCell ⟨b, 3, none⟩ u3).setCell ⟨b, 4, none⟩ u4) (boxR b #[u0, u1, u2, u3, u4] T :: L) := by
  have h := ((((S.set (o := 0) u0).set (o := 1) u1).set (o := 2) u2).set (o := 3) u3).set (o := 4) u4
  simp only [List.setIfInBounds_toArray, List.set_cons_zero, List.set_cons_succ] at h
  exact h
set_option maxRecDepth 100000 in
set_option maxHeartbeats 2000000 in
theorem poStep (p r0 r1 r2 r3 r4 s0 s1 s2 s3 s4 a0 a1 a2 a3 a4 : Nat) (rest : Bs) (a : List Nat) (s : Bs) (ha : Limbs a) (hr : Limbs [r0, r1, r2, r3, r4]) (hs : s.length ≤ 16) (S : Sp w0 F0 w (polyPart p r0 r1 r2 r3 r4 s0 s1 s2 s3 s4 a0 a1 a2 a3 a4 rest :: L)) :
    Calls Tryz.prog 179 #[.pointer (some ⟨p, 0, none⟩), .agg (row64 a), .string ⟨s.toArray⟩] w fun e w2 => e = .returned (.agg (row64 (step5 [r0, r1, r2, r3, r4] a s))) ∧ Sp w0 F0 w2 (polyPart p r0 r1 r2 r3 r4 s0 s1 s2 s3 s4 a0 a1 a2 a3 a4 rest :: L) := by
  obtain ⟨x0, x1, x2, x3, x4, rfl⟩ := limbs5 ha
  have HA := Lib.hid ha
  have HR := Lib.hid hr
  have hs' : (s.length : Int) ≤ 16 := by omega
  have HS0 := Lib.hid ((S.box (row64 [x0, x1, x2, x3, x4]) 191).box (row64 zero5) 191)
  have hsz : ∀ (w : World) (o : Obj), (w.alloc o).heap.size = w.heap.size + 1 := fun _ o => Array.size_push _
  simp only [hsz] at HS0
  have HPL := Lib.hid (plusUp_limbs HA.out (readUp (s ++ [1]) (s.length + 1)) 5)
  have HLN : Hid ((s ++ [1]).length ≤ 17) := by unfold Hid; simp; omega
  have HLE : Hid ((s ++ [1]).length = s.length + 1) := by unfold Hid; simp
  clear S hsz ha hr
  go_enter Tryz.func179, Tryz.ntmps179
  go_upto_region 1 with (fail)
  have HS1 : Hid (Sp w0 F0 ((w.alloc (.cells #[.int .u64 x0, .int .u64 x1, .int .u64 x2, .int .u64 x3, .int .u64 x4] 191)).alloc (.cells #[.int .u64 0, .int .u64 0, .int .u64 0, .int .u64 0, .int .u64 0] 191)) (boxR (w.heap.size + 1) #[.int .u64 0, .int .u64 0, .int .u64 0, .int .u64 0, .int .u64 0] 191 :: boxR w.heap.size #[.int .u64 x0, .int .u64 x1, .int .u64 x2, .int .u64 x3, .int .u64 x4] 191 :: polyPart p r0 r1 r2 r3 r4 s0 s1 s2 s3 s4 a0 a1 a2 a3 a4 rest :: L)) := HS0
  clear HS0
  unfold row64
  simp only [List.map_cons, List.map_nil]
  generalize ((w.alloc (.cells #[.int .u64 x0, .int .u64 x1, .int .u64 x2, .int .u64 x3, .int .u64 x4] 191)).alloc (.cells #[.int .u64 0, .int .u64 0, .int .u64 0, .int .u64 0, .int .u64 0] 191)) = w1 at *
  generalize w.heap.size + 1 = g1 at *
  generalize w.heap.size = g0 at *
  have hadd := add_str s [1] (by simp [maxLen]; omega)
  obtain ⟨z0, z1, z2, z3, z4, hz⟩ := limbs5 (carryN_limbs (timesUp_limbs (plusUp [x0, x1, x2, x3, x4] (readUp (s ++ [1]) (s.length + 1)) 5) [r0, r1, r2, r3, r4] 5) 2)
  have HZ : Hid (step5 [r0, r1, r2, r3, r4] [x0, x1, x2, x3, x4] s = [z0, z1, z2, z3, z4]) := hz
  have HC1 := Lib.hid (fun (W : World) (S' : Sp w0 F0 W (boxR g1 #[.int .u64 0, .int .u64 0, .int .u64 0, .int .u64 0, .int .u64 0] 191 :: boxR g0 #[.int .u64 x0, .int .u64 x1, .int .u64 x2, .int .u64 x3, .int .u64 x4] 191 :: polyPart p r0 r1 r2 r3 r4 s0 s1 s2 s3 s4 a0 a1 a2 a3 a4 rest :: L)) => poRead (s ++ [1]) HLN.out S')
  rw [HLE.out] at HC1
  have HC2 := Lib.hid (fun (W : World) (S' : Sp w0 F0 W (boxR g1 #[.int .u64 0, .int .u64 0, .int .u64 0, .int .u64 0, .int .u64 0] 191 :: boxR g0 #[.int .u64 x0, .int .u64 x1, .int .u64 x2, .int .u64 x3, .int .u64 x4] 191 :: polyPart p r0 r1 r2 r3 r4 s0 s1 s2 s3 s4 a0 a1 a2 a3 a4 rest :: L)) => poPlus [x0, x1, x2, x3, x4] (readUp (s ++ [1]) (s.length + 1)) HA.out (readUp_limbs _ _) S')
  have HC3 := Lib.hid (fun (W : World) (S' : Sp w0 F0 W (boxR g1 #[.int .u64 0, .int .u64 0, .int .u64 0, .int .u64 0, .int .u64 0] 191 :: boxR g0 #[.int .u64 x0, .int .u64 x1, .int .u64 x2, .int .u64 x3, .int .u64 x4] 191 :: polyPart p r0 r1 r2 r3 r4 s0 s1 s2 s3 s4 a0 a1 a2 a3 a4 rest :: L)) => poTimes (plus5 [x0, x1, x2, x3, x4] (readUp (s ++ [1]) (s.length + 1))) [r0, r1, r2, r3, r4] HPL.out HR.out S')
  rw [show times5 (plus5 [x0, x1, x2, x3, x4] (readUp (s ++ [1]) (s.length + 1))) [r0, r1, r2, r3, r4] = [z0, z1, z2, z3, z4] from hz] at HC3
  clear hz HPL HLN HLE HA HR
  generalize readUp (s ++ [1]) (s.length + 1) = rd at *
  generalize plus5 [x0, x1, x2, x3, x4] rd = pl at *
  refine wp_region_chainG [0, 1, 2, 5, 6, 7, 8, 3, 4, 9, 10] (fun c => c == 3 || c == 4 || c == 9 || c == 10) (fun c => c == 10) (T := fun wx => (∀ o, wx.cell? ⟨g0, o, none⟩ = (#[.int .u64 x0, .int .u64 x1, .int .u64 x2, .int .u64 x3, .int .u64 x4])[o]?) ∧ (∀ o, wx.cell? ⟨p, o, none⟩ = (#[.int .u64 r0, .int .u64 r1, .int .u64 r2, .int .u64 r3, .int .u64 r4, .int .u64 s0, .int .u64 s1, .int .u64 s2, .int .u64 s3, .int .u64 s4, .int .u64 a0, .int .u64 a1, .int .u64 a2, .int .u64 a3, .int .u64 a4, .string ⟨rest.toArray⟩])[o]?)) (S := fun wx => Sp w0 F0 wx (boxR g1 #[.int .u64 0, .int .u64 0, .int .u64 0, .int .u64 0, .int .u64 0] 191 :: boxR g0 #[.int .u64 x0, .int .u64 x1, .int .u64 x2, .int .u64 x3, .int .u64 x4] 191 :: polyPart p r0 r1 r2 r3 r4 s0 s1 s2 s3 s4 a0 a1 a2 a3 a4 rest :: L)) (by kernel_rfl) (by kernel_rfl) (by kernel_rfl) HS1.out.drew (fun x h => ⟨((Sp.pick [_, _] [1] (by decide) (h))).cell, ((Sp.pick [_, _, _] [2] (by decide) (h))).cell⟩) ?_
  repeat
    refine Exists.intro _ (And.intro rfl (Or.inl (Exists.intro ?_ (And.intro (fun wS hS K hK => ?_) (And.intro ?_ ?_)))))
    rotate_left 1
    · obtain ⟨t0, t1⟩ := hS
      first
        | (refine if_unwanted rfl ?_; simp only [Act.put, List.setIfInBounds_toArray, List.set_cons_zero, List.set_cons_succ]; exact hK.out)
        | (refine if_wanted rfl ?_; go_simp; exact hK.out)
    · rfl
  refine ChainG.one rfl rfl rfl (fun wS hS R hR => ?_)
  go_simp
  go_at_call 178
  refine (HC1.out wS hS).mono ?_
  rintro e w7 ⟨rfl, S7⟩
  refine hR.out _ _ rfl (fun wx => (∀ o, wx.cell? ⟨g0, o, none⟩ = (#[.int .u64 x0, .int .u64 x1, .int .u64 x2, .int .u64 x3, .int .u64 x4])[o]?) ∧ (∀ o, wx.cell? ⟨p, o, none⟩ = (#[.int .u64 r0, .int .u64 r1, .int .u64 r2, .int .u64 r3, .int .u64 r4, .int .u64 s0, .int .u64 s1, .int .u64 s2, .int .u64 s3, .int .u64 s4, .int .u64 a0, .int .u64 a1, .int .u64 a2, .int .u64 a3, .int .u64 a4, .string ⟨rest.toArray⟩])[o]?)) (fun wx => Sp w0 F0 wx (boxR g1 #[.int .u64 0, .int .u64 0, .int .u64 0, .int .u64 0, .int .u64 0] 191 :: boxR g0 #[.int .u64 x0, .int .u64 x1, .int .u64 x2, .int .u64 x3, .int .u64 x4] 191 :: polyPart p r0 r1 r2 r3 r4 s0 s1 s2 s3 s4 a0 a1 a2 a3 a4 rest :: L)) S7 (fun x h => ⟨((Sp.pick [_, _] [1] (by decide) (h))).cell, ((Sp.pick [_, _, _] [2] (by decide) (h))).cell⟩) (fun _ h => h) ?_
  clear hR hS S7
  repeat
    refine Exists.intro _ (And.intro rfl (Or.inl (Exists.intro ?_ (And.intro (fun wS hS K hK => ?_) (And.intro ?_ ?_)))))
    rotate_left 1
    · obtain ⟨t0, t1⟩ := hS
      first
        | (refine if_unwanted rfl ?_; simp only [Act.put, List.setIfInBounds_toArray, List.set_cons_zero, List.set_cons_succ]; exact hK.out)
        | (refine if_wanted rfl ?_; go_simp; exact hK.out)
    · rfl
  refine ChainG.one rfl rfl rfl (fun wS hS R hR => ?_)
  go_simp
  go_at_call 181
  refine (HC2.out wS hS).mono ?_
  rintro e w7 ⟨rfl, S7⟩
  refine hR.out _ _ rfl (fun wx => (∀ o, wx.cell? ⟨g0, o, none⟩ = (#[.int .u64 x0, .int .u64 x1, .int .u64 x2, .int .u64 x3, .int .u64 x4])[o]?) ∧ (∀ o, wx.cell? ⟨p, o, none⟩ = (#[.int .u64 r0, .int .u64 r1, .int .u64 r2, .int .u64 r3, .int .u64 r4, .int .u64 s0, .int .u64 s1, .int .u64 s2, .int .u64 s3, .int .u64 s4, .int .u64 a0, .int .u64 a1, .int .u64 a2, .int .u64 a3, .int .u64 a4, .string ⟨rest.toArray⟩])[o]?)) (fun wx => Sp w0 F0 wx (boxR g1 #[.int .u64 0, .int .u64 0, .int .u64 0, .int .u64 0, .int .u64 0] 191 :: boxR g0 #[.int .u64 x0, .int .u64 x1, .int .u64 x2, .int .u64 x3, .int .u64 x4] 191 :: polyPart p r0 r1 r2 r3 r4 s0 s1 s2 s3 s4 a0 a1 a2 a3 a4 rest :: L)) S7 (fun x h => ⟨((Sp.pick [_, _] [1] (by decide) (h))).cell, ((Sp.pick [_, _, _] [2] (by decide) (h))).cell⟩) (fun _ h => h) ?_
  clear hR hS S7
  repeat
    refine Exists.intro _ (And.intro rfl (Or.inl (Exists.intro ?_ (And.intro (fun wS hS K hK => ?_) (And.intro ?_ ?_)))))
    rotate_left 1
    · obtain ⟨t0, t1⟩ := hS
      first
        | (refine if_unwanted rfl ?_; simp only [Act.put, List.setIfInBounds_toArray, List.set_cons_zero, List.set_cons_succ]; exact hK.out)
        | (refine if_wanted rfl ?_; go_simp; exact hK.out)
    · rfl
  refine ChainG.one rfl rfl rfl (fun wS hS R hR => ?_)
  go_simp
  go_at_call 192
  refine (HC3.out wS hS).mono ?_
  rintro e w7 ⟨rfl, S7⟩
  refine hR.out _ _ rfl (fun wx => (∀ o, wx.cell? ⟨g0, o, none⟩ = (#[.int .u64 x0, .int .u64 x1, .int .u64 x2, .int .u64 x3, .int .u64 x4])[o]?) ∧ (∀ o, wx.cell? ⟨p, o, none⟩ = (#[.int .u64 r0, .int .u64 r1, .int .u64 r2, .int .u64 r3, .int .u64 r4, .int .u64 s0, .int .u64 s1, .int .u64 s2, .int .u64 s3, .int .u64 s4, .int .u64 a0, .int .u64 a1, .int .u64 a2, .int .u64 a3, .int .u64 a4, .string ⟨rest.toArray⟩])[o]?)) (fun wx => Sp w0 F0 wx (boxR g1 #[.int .u64 0, .int .u64 0, .int .u64 0, .int .u64 0, .int .u64 0] 191 :: boxR g0 #[.int .u64 x0, .int .u64 x1, .int .u64 x2, .int .u64 x3, .int .u64 x4] 191 :: polyPart p r0 r1 r2 r3 r4 s0 s1 s2 s3 s4 a0 a1 a2 a3 a4 rest :: L)) S7 (fun x h => ⟨((Sp.pick [_, _] [1] (by decide) (h))).cell, ((Sp.pick [_, _, _] [2] (by decide) (h))).cell⟩) (fun _ h => h) ?_
  clear hR hS S7
  repeat
    refine Exists.intro _ (And.intro rfl (Or.inl (Exists.intro ?_ (And.intro (fun wS hS K hK => ?_) (And.intro ?_ ?_)))))
    rotate_left 1
    · obtain ⟨t0, t1⟩ := hS
      first
        | (refine if_unwanted rfl ?_; simp only [Act.put, List.setIfInBounds_toArray, List.set_cons_zero, List.set_cons_succ]; exact hK.out)
        | (refine if_wanted rfl ?_; go_simp; exact hK.out)
    · rfl
  refine ChainG.two rfl rfl rfl rfl (fun wS hS R hR => ?_)
  have c1 := hS.cell
  have f1 := hS.free
  have HP := Lib.hid (hS.put5 (.int .u64 z0) (.int .u64 z1) (.int .u64 z2) (.int .u64 z3) (.int .u64 z4))
  simp only [row64, List.map_cons, List.map_nil]
  go_simp
  refine hR.out _ _ rfl (fun wx => True) (fun wx => Sp w0 F0 wx (boxR g1 #[.int .u64 z0, .int .u64 z1, .int .u64 z2, .int .u64 z3, .int .u64 z4] 191 :: boxR g0 #[.int .u64 x0, .int .u64 x1, .int .u64 x2, .int .u64 x3, .int .u64 x4] 191 :: polyPart p r0 r1 r2 r3 r4 s0 s1 s2 s3 s4 a0 a1 a2 a3 a4 rest :: L)) HP.out (fun _ _ => trivial)  ?_
  clear hR
  repeat
    refine Exists.intro _ (And.intro rfl (Or.inl (Exists.intro ?_ (And.intro (fun wS hS K hK => ?_) (And.intro ?_ ?_)))))
    rotate_left 1
    · have t0 := hS
      first
        | (refine if_unwanted rfl ?_; simp only [Act.put, List.setIfInBounds_toArray, List.set_cons_zero, List.set_cons_succ]; exact hK.out)
        | (refine if_wanted rfl ?_; go_simp; exact hK.out)
    · rfl
  intro wE hE
  have HSE := Lib.hid hE
  clear hE
  go_wp2
  refine bodyPost_ret (results_cell_row rfl _ _ g1 191 #[.int .u64 z0, .int .u64 z1, .int .u64 z2, .int .u64 z3, .int .u64 z4] (0, 0) _ rfl HSE.out.boxed Tryz.underlying191 rfl (by kernel_rfl)) rfl ?_
  exact ⟨by rw [HZ.out]; rfl, HSE.out.drop.drop⟩
end
end Go.Proofs.YtkenacggjffjnaaGreatDoor

/-! PoV -/
namespace Go.Proofs.YtkenacggjffjnaaGreatDoor
open Go.RowKit

section
variable {w0 w : World} {F0 : List Nat} {L : List Res} {v : Value}
set_option maxRecDepth 100000 in
set_option maxHeartbeats 2000000 in
theorem poNew (key : Bs) (hk : key.length = 32) (S : Sp w0 F0 w L) : Calls Tryz.prog 159 #[.string ⟨key.toArray⟩] w fun e w2 => ∃ p r0 r1 r2 r3 r4 s0 s1 s2 s3 s4, polyR key = [r0, r1, r2, r3, r4] ∧ polyS key = [s0, s1, s2, s3, s4] ∧
    e = .returned (.tuple #[.pointer (some ⟨p, 0, none⟩), .int .i64 0]) ∧ Sp w0 F0 w2 (polyPart p r0 r1 r2 r3 r4 s0 s1 s2 s3 s4 0 0 0 0 0 [] :: L) := by
  have hc1 := cut_head key 16
  have hc2 := cut_tail key 16 32 hk.symm
  have hk' : (key.length : Int) = 32 := by omega
  obtain ⟨r0, r1, r2, r3, r4, hr⟩ := limbs5 (readUp_limbs (clampUp (key.take 16) 16) 16)
  obtain ⟨s0, s1, s2, s3, s4, hs⟩ := limbs5 (readUp_limbs (key.drop 16) 16)
  have HT : Hid ((key.take 16).length = 16) := by unfold Hid; simp; omega
  have HD : Hid ((key.drop 16).length = 16) := by unfold Hid; simp; omega
  have HCL : Hid ((clampUp (key.take 16) 16).length = 16) := by unfold Hid; rw [clampUp_length]; exact HT.out
  have HPR : Hid (polyR key = [r0, r1, r2, r3, r4]) := hr
  have HPS : Hid (polyS key = [s0, s1, s2, s3, s4]) := hs
  have HC1 := Lib.hid (fun (W : World) (S' : Sp w0 F0 W L) => poRead (clampUp (key.take 16) 16) (by rw [HCL.out]; decide) S')
  have HC2 := Lib.hid (fun (W : World) (S' : Sp w0 F0 W L) => poRead (key.drop 16) (by rw [HD.out]; decide) S')
  rw [HCL.out, hr] at HC1
  rw [HD.out, hs] at HC2
  have HC1 : Hid (∀ (W : World) (S' : Sp w0 F0 W L), Calls Tryz.prog 178 #[.string ⟨(clampUp (key.take 16) 16).toArray⟩] W fun e w2 => e = .returned (.agg #[.int .u64 r0, .int .u64 r1, .int .u64 r2, .int .u64 r3, .int .u64 r4]) ∧ Sp w0 F0 w2 L) := HC1
  have HC2 : Hid (∀ (W : World) (S' : Sp w0 F0 W L), Calls Tryz.prog 178 #[.string ⟨(key.drop 16).toArray⟩] W fun e w2 => e = .returned (.agg #[.int .u64 s0, .int .u64 s1, .int .u64 s2, .int .u64 s3, .int .u64 s4]) ∧ Sp w0 F0 w2 L) := HC2
  have HS0 := Lib.hid S
  clear hr hs S HD HCL
  generalize key.drop 16 = kd at *
  go_enter Tryz.func159, Tryz.ntmps159
  go_wp2_with fail
  refine (poClamp (key.take 16) HT.out HS0.out).mono ?_
  rintro e w2 ⟨rfl, S⟩
  have HS1 := Lib.hid S
  clear S HS0 HT
  generalize clampUp (key.take 16) 16 = kc at *
  generalize key.take 16 = kt at *
  go_upto_region 6 with (fail)
  refine wp_region_chainG [0, 2, 3, 1, 4, 5, 6, 7, 8] (fun c => c == 1 || c == 4 || c == 6) (fun c => c == 6) (T := fun wx => True) (S := fun wx => Sp w0 F0 wx (L)) (by kernel_rfl) (by kernel_rfl) (by kernel_rfl) HS1.out.drew (fun x h => trivial) ?_
  repeat
    refine Exists.intro _ (And.intro rfl (Or.inl (Exists.intro ?_ (And.intro (fun wS hS K hK => ?_) (And.intro ?_ ?_)))))
    rotate_left 1
    · have t0 := hS
      first
        | (refine if_unwanted rfl ?_; simp only [Act.put, List.setIfInBounds_toArray, List.set_cons_zero, List.set_cons_succ]; exact hK.out)
        | (refine if_wanted rfl ?_; go_simp; exact hK.out)
    · rfl
  refine ChainG.one rfl rfl rfl (fun wS hS R hR => ?_)
  go_simp
  go_at_call 178
  refine (HC1.out wS hS).mono ?_
  rintro e w7 ⟨rfl, S7⟩
  refine hR.out _ _ rfl (fun wx => True) (fun wx => Sp w0 F0 wx (L)) S7 (fun x h => trivial) (fun _ h => h) ?_
  clear hR hS S7
  repeat
    refine Exists.intro _ (And.intro rfl (Or.inl (Exists.intro ?_ (And.intro (fun wS hS K hK => ?_) (And.intro ?_ ?_)))))
    rotate_left 1
    · have t0 := hS
      first
        | (refine if_unwanted rfl ?_; simp only [Act.put, List.setIfInBounds_toArray, List.set_cons_zero, List.set_cons_succ]; exact hK.out)
        | (refine if_wanted rfl ?_; go_simp; exact hK.out)
    · rfl
  refine ChainG.one rfl rfl rfl (fun wS hS R hR => ?_)
  go_simp
  go_at_call 178
  refine (HC2.out wS hS).mono ?_
  rintro e w7 ⟨rfl, S7⟩
  refine hR.out _ _ rfl (fun wx => True) (fun wx => Sp w0 F0 wx (L)) S7 (fun x h => trivial) (fun _ h => h) ?_
  clear hR hS S7
  repeat
    refine Exists.intro _ (And.intro rfl (Or.inl (Exists.intro ?_ (And.intro (fun wS hS K hK => ?_) (And.intro ?_ ?_)))))
    rotate_left 1
    · have t0 := hS
      first
        | (refine if_unwanted rfl ?_; simp only [Act.put, List.setIfInBounds_toArray, List.set_cons_zero, List.set_cons_succ]; exact hK.out)
        | (refine if_wanted rfl ?_; go_simp; exact hK.out)
    · rfl
  refine ChainG.two rfl rfl rfl rfl (fun wS hS R hR => ?_)
  have HP := Lib.hid (hS.box #[.int .u64 r0, .int .u64 r1, .int .u64 r2, .int .u64 r3, .int .u64 r4, .int .u64 s0, .int .u64 s1, .int .u64 s2, .int .u64 s3, .int .u64 s4, .int .u64 0, .int .u64 0, .int .u64 0, .int .u64 0, .int .u64 0, .string ⟨#[]⟩] 194)
  go_simp
  refine hR.out _ _ rfl (fun wx => True) (fun wx => Sp w0 F0 wx (polyPart wS.heap.size r0 r1 r2 r3 r4 s0 s1 s2 s3 s4 0 0 0 0 0 [] :: L)) HP.out (fun _ _ => trivial)  ?_
  clear hR
  repeat
    refine Exists.intro _ (And.intro rfl (Or.inl (Exists.intro ?_ (And.intro (fun wS hS K hK => ?_) (And.intro ?_ ?_)))))
    rotate_left 1
    · have t0 := hS
      first
        | (refine if_unwanted rfl ?_; simp only [Act.put, List.setIfInBounds_toArray, List.set_cons_zero, List.set_cons_succ]; exact hK.out)
        | (refine if_wanted rfl ?_; go_simp; exact hK.out)
    · rfl
  intro wE hE
  have HSE := Lib.hid hE
  clear hE
  go_wp2
  go_ret2
  exact ⟨_, r0, r1, r2, r3, r4, s0, s1, s2, s3, s4, HPR.out, HPS.out, rfl, HSE.out⟩
end
end Go.Proofs.YtkenacggjffjnaaGreatDoor

/-! PoT -/
namespace Go.Proofs.YtkenacggjffjnaaGreatDoor
open Go.RowKit

section
variable {w0 w : World} {F0 : List Nat} {L : List Res} {v : Value}
theorem step5_limbs (r a : List Nat) (s : Bs) : Limbs (step5 r a s) := carryN_limbs (timesUp_limbs _ _ _) 2
theorem addAll_limbs (r : List Nat) : ∀ (n : Nat) (a : List Nat) (s : Bs), Limbs a → Limbs (addAll r n a s).1
  | 0, _, _, h => h
  | n + 1, a, s, h => by
    unfold addAll
    split
    · exact addAll_limbs r n _ _ (step5_limbs _ _ _)
    · exact h
theorem addAll_rest (r : List Nat) : ∀ (n : Nat) (a : List Nat) (s : Bs), s.length / 16 ≤ n → (addAll r n a s).2.length < 16
  | 0, _, s, h => by
    show s.length < 16
    omega
  | n + 1, a, s, h => by
    unfold addAll
    split
    · exact addAll_rest r n _ _ (by rw [List.length_drop]; omega)
    · show s.length < 16
      omega
theorem Sp.polyPut {p r0 r1 r2 r3 r4 s0 s1 s2 s3 s4 a0 a1 a2 a3 a4 : Nat} {rest : Bs} (S : Sp w0 F0 w (polyPart p r0 r1 r2 r3 r4 s0 s1 s2 s3 s4 a0 a1 a2 a3 a4 rest :: L)) (z0 z1 z2 z3 z4 : Nat) :
    Sp w0 F0 (((((w.setCell ⟨p, 10, none⟩ (.int .u64 z0)).setCell ⟨p, 11, none⟩ (.int .u64 z1)).setCell ⟨p, 12, none⟩ (.int .u64 z2)).setCell ⟨p, 13, none⟩ (.int .u64 z3)).setCell ⟨p, 14, none⟩ (.int .u64 z4)) (polyPart p r0 r1 r2 r3 r4 s0 s1 s2 s3 s4 z0 z1 z2 z3 z4 rest :: L) := by
  have h := ((((S.set (o := 10) (.int .u64 z0)).set (o := 11) (.int .u64 z1)).set (o := 12) (.int .u64 z2)).set (o := 13) (.int .u64 z3)).set (o := 14) (.int .u64 z4)
  simp only [List.setIfInBounds_toArray, List.set_cons_zero, List.set_cons_succ] at h
  exact h
theorem Sp.polyRest {p r0 r1 r2 r3 r4 s0 s1 s2 s3 s4 a0 a1 a2 a3 a4 : Nat} {rest : Bs} (S : Sp w0 F0 w (polyPart p r0 r1 r2 r3 r4 s0 s1 s2 s3 s4 a0 a1 a2 a3 a4 rest :: L)) (t : Bs) :
    Sp w0 F0 (w.setCell ⟨p, 15, none⟩ (.string ⟨t.toArray⟩)) (polyPart p r0 r1 r2 r3 r4 s0 s1 s2 s3 s4 a0 a1 a2 a3 a4 t :: L) := by
  have h := S.set (o := 15) (.string ⟨t.toArray⟩)
  simp only [List.setIfInBounds_toArray, List.set_cons_zero, List.set_cons_succ] at h
  exact h
set_option maxRecDepth 100000 in
set_option maxHeartbeats 4000000 in
theorem poAdd (p r0 r1 r2 r3 r4 s0 s1 s2 s3 s4 : Nat) (t : Bs) (hr : Limbs [r0, r1, r2, r3, r4]) (ht : t.length ≤ 1000000) (S : Sp w0 F0 w (polyPart p r0 r1 r2 r3 r4 s0 s1 s2 s3 s4 0 0 0 0 0 [] :: L)) :
    Calls Tryz.prog 160 #[.pointer (some ⟨p, 0, none⟩), .string ⟨t.toArray⟩] w fun e w2 => ∃ z0 z1 z2 z3 z4, (addAll [r0, r1, r2, r3, r4] (t.length / 16) zero5 t).1 = [z0, z1, z2, z3, z4] ∧ e = .returned (.tuple #[]) ∧
      Sp w0 F0 w2 (polyPart p r0 r1 r2 r3 r4 s0 s1 s2 s3 s4 z0 z1 z2 z3 z4 (addAll [r0, r1, r2, r3, r4] (t.length / 16) zero5 t).2 :: L) := by
  have HR := Lib.hid hr
  have HT := Lib.hid ht
  have c0 := S.cell
  have f0 := S.free
  have hadd := add_str [] t (by simp [maxLen]; omega)
  have HS0 := Lib.hid (S.polyRest t)
  clear S hr ht
  go_enter Tryz.func160, Tryz.ntmps160
  go_wp2_with fail
  generalize w.setCell ⟨p, 15, none⟩ (.string ⟨t.toArray⟩) = w1 at *
  clear c0 f0 hadd
  go_loopg [] (t.length / 16) (fun gg wr => ∃ (x0 x1 x2 x3 x4 : Nat) (u : Bs), u.length / 16 = gg ∧ u.length ≤ 1000000 ∧ Limbs [x0, x1, x2, x3, x4] ∧ addAll [r0, r1, r2, r3, r4] gg [x0, x1, x2, x3, x4] u = addAll [r0, r1, r2, r3, r4] (t.length / 16) zero5 t ∧ Sp w0 F0 wr (polyPart p r0 r1 r2 r3 r4 s0 s1 s2 s3 s4 x0 x1 x2 x3 x4 u :: L))
  case atStart => exact ⟨0, 0, 0, 0, 0, t, rfl, HT.out, zero5_limbs, rfl, HS0.out⟩
  case round =>
    clear HS0
    obtain ⟨x0, x1, x2, x3, x4, u, hn, hu, hx, he, S⟩ := hrel
    have HX := Lib.hid hx
    have HE := Lib.hid he
    have HN := Lib.hid hn
    have HS := Lib.hid S
    have c := S.cell
    clear S hx he hn
    by_cases hl : 16 ≤ u.length
    · have hl' : (16 : Int) ≤ u.length := by omega
      have hc1 := cut_head u 16
      obtain ⟨z0, z1, z2, z3, z4, hz⟩ := limbs5 (step5_limbs [r0, r1, r2, r3, r4] [x0, x1, x2, x3, x4] (u.take 16))
      have HST := Lib.hid (fun (W : World) (S' : Sp w0 F0 W (polyPart p r0 r1 r2 r3 r4 s0 s1 s2 s3 s4 x0 x1 x2 x3 x4 u :: L)) => poStep p r0 r1 r2 r3 r4 s0 s1 s2 s3 s4 x0 x1 x2 x3 x4 u [x0, x1, x2, x3, x4] (u.take 16) HX.out HR.out (by simp; omega) S')
      rw [hz] at HST
      have HST : Hid (∀ (W : World) (S' : Sp w0 F0 W (polyPart p r0 r1 r2 r3 r4 s0 s1 s2 s3 s4 x0 x1 x2 x3 x4 u :: L)), Calls Tryz.prog 179 #[.pointer (some ⟨p, 0, none⟩), .agg #[.int .u64 x0, .int .u64 x1, .int .u64 x2, .int .u64 x3, .int .u64 x4], .string ⟨(u.take 16).toArray⟩] W fun e w2 => e = .returned (.agg #[.int .u64 z0, .int .u64 z1, .int .u64 z2, .int .u64 z3, .int .u64 z4]) ∧ Sp w0 F0 w2 (polyPart p r0 r1 r2 r3 r4 s0 s1 s2 s3 s4 x0 x1 x2 x3 x4 u :: L)) := HST
      obtain ⟨gm, hgm⟩ : ∃ m, gk = m + 1 := ⟨gk - 1, by have := HN.out; omega⟩
      have HG := Lib.hid hgm
      have HE2 : Hid (addAll [r0, r1, r2, r3, r4] gm [z0, z1, z2, z3, z4] (u.drop 16) = addAll [r0, r1, r2, r3, r4] (t.length / 16) zero5 t) := by
        have := HE.out
        rw [hgm, addAll, if_pos hl, hz] at this
        exact this
      have HZ : Hid (Limbs [z0, z1, z2, z3, z4]) := by
        have := step5_limbs [r0, r1, r2, r3, r4] [x0, x1, x2, x3, x4] (u.take 16)
        rw [hz] at this
        exact this
      have HC2 := Lib.hid (cut_tail u 16)
      clear hz hgm HE
      go_upto_region 2 with (fail)
      clear c
      generalize hkt : u.take 16 = kt at *
      clear hkt
      refine wp_region_chainG [0, 1, 2, 3, 4, 5, 6, 7, 8, 9, 10, 11, 12, 13, 14] (fun c => c == 11 || c == 14) (fun c => c == 14) (T := fun wx => (∀ o, wx.cell? ⟨p, o, none⟩ = (#[.int .u64 r0, .int .u64 r1, .int .u64 r2, .int .u64 r3, .int .u64 r4, .int .u64 s0, .int .u64 s1, .int .u64 s2, .int .u64 s3, .int .u64 s4, .int .u64 x0, .int .u64 x1, .int .u64 x2, .int .u64 x3, .int .u64 x4, .string ⟨u.toArray⟩])[o]?)) (S := fun wx => Sp w0 F0 wx (polyPart p r0 r1 r2 r3 r4 s0 s1 s2 s3 s4 x0 x1 x2 x3 x4 u :: L)) (by kernel_rfl) (by kernel_rfl) (by kernel_rfl) HS.out.drew (fun x h => h.cell) ?_
      repeat
        refine Exists.intro _ (And.intro rfl (Or.inl (Exists.intro ?_ (And.intro (fun wS hS K hK => ?_) (And.intro ?_ ?_)))))
        rotate_left 1
        · have t0 := hS
          first
            | (refine if_unwanted rfl ?_; simp only [Act.put, List.setIfInBounds_toArray, List.set_cons_zero, List.set_cons_succ]; exact hK.out)
            | (refine if_wanted rfl ?_; go_simp; exact hK.out)
        · rfl
      refine ChainG.one rfl rfl rfl (fun wS hS R hR => ?_)
      go_simp
      go_at_call 179
      refine (HST.out wS hS).mono ?_
      rintro e w7 ⟨rfl, S7⟩
      refine hR.out _ _ rfl (fun wx => (∀ o, wx.cell? ⟨p, o, none⟩ = (#[.int .u64 r0, .int .u64 r1, .int .u64 r2, .int .u64 r3, .int .u64 r4, .int .u64 s0, .int .u64 s1, .int .u64 s2, .int .u64 s3, .int .u64 s4, .int .u64 x0, .int .u64 x1, .int .u64 x2, .int .u64 x3, .int .u64 x4, .string ⟨u.toArray⟩])[o]?)) (fun wx => Sp w0 F0 wx (polyPart p r0 r1 r2 r3 r4 s0 s1 s2 s3 s4 x0 x1 x2 x3 x4 u :: L)) S7 (fun x h => h.cell) (fun _ h => h) ?_
      clear hR hS S7
      repeat
        refine Exists.intro _ (And.intro rfl (Or.inl (Exists.intro ?_ (And.intro (fun wS hS K hK => ?_) (And.intro ?_ ?_)))))
        rotate_left 1
        · have t0 := hS
          first
            | (refine if_unwanted rfl ?_; simp only [Act.put, List.setIfInBounds_toArray, List.set_cons_zero, List.set_cons_succ]; exact hK.out)
            | (refine if_wanted rfl ?_; go_simp; exact hK.out)
        · rfl
      refine ChainG.two rfl rfl rfl rfl (fun wS hS R hR => ?_)
      have c1 := hS.cell
      have f1 := hS.free
      have HP := Lib.hid (hS.polyPut z0 z1 z2 z3 z4)
      go_simp
      refine hR.out _ _ rfl (fun wx => True) (fun wx => Sp w0 F0 wx (polyPart p r0 r1 r2 r3 r4 s0 s1 s2 s3 s4 z0 z1 z2 z3 z4 u :: L)) HP.out (fun _ _ => trivial)  ?_
      clear hR
      repeat
        refine Exists.intro _ (And.intro rfl (Or.inl (Exists.intro ?_ (And.intro (fun wS hS K hK => ?_) (And.intro ?_ ?_)))))
        rotate_left 1
        · have t0 := hS
          first
            | (refine if_unwanted rfl ?_; simp only [Act.put, List.setIfInBounds_toArray, List.set_cons_zero, List.set_cons_succ]; exact hK.out)
            | (refine if_wanted rfl ?_; go_simp; exact hK.out)
        · rfl
      intro wE hE
      have HSE := Lib.hid hE
      clear hE
      have c2 := HSE.out.cell
      have f2 := HSE.out.free
      have hc2 := HC2.out u.length rfl
      have HP := Lib.hid (HSE.out.polyRest (u.drop 16))
      generalize hud : u.drop 16 = ud at *
      have HUD := Lib.hid hud
      clear hud HSE
      go_wp2_with fail
      go_roundg gm
      case measure => have := HG.out; omega
      case rel => exact ⟨z0, z1, z2, z3, z4, ud, by rw [← HUD.out, List.length_drop]; have := HG.out; have := HN.out; omega, by rw [← HUD.out, List.length_drop]; omega, HZ.out, HE2.out, HP.out⟩
    · have hl' : ¬ (16 : Int) ≤ u.length := by omega
      obtain rfl : gk = 0 := by have := HN.out; omega
      go_wp2_with fail
      go_end0
      have h : (([x0, x1, x2, x3, x4], u) : List Nat × Bs) = addAll [r0, r1, r2, r3, r4] (t.length / 16) zero5 t := HE.out
      rw [← h]
      exact ⟨x0, x1, x2, x3, x4, rfl, rfl, HS.out⟩
set_option maxRecDepth 100000 in
set_option maxHeartbeats 4000000 in
theorem poTagM (p r0 r1 r2 r3 r4 s0 s1 s2 s3 s4 x0 x1 x2 x3 x4 : Nat) (rest : Bs) (hr : Limbs [r0, r1, r2, r3, r4]) (hs : Limbs [s0, s1, s2, s3, s4]) (hx : Limbs [x0, x1, x2, x3, x4]) (hl : rest.length < 16) (S : Sp w0 F0 w (polyPart p r0 r1 r2 r3 r4 s0 s1 s2 s3 s4 x0 x1 x2 x3 x4 rest :: L)) :
    Calls Tryz.prog 161 #[.pointer (some ⟨p, 0, none⟩)] w fun e w2 => e = .returned (.string ⟨(tag5 [r0, r1, r2, r3, r4] [s0, s1, s2, s3, s4] [x0, x1, x2, x3, x4] rest).toArray⟩) ∧ Sp w0 F0 w2 L := by
  have HR := Lib.hid hr
  have HSS := Lib.hid hs
  have HL := Lib.hid hl
  have c0 := S.cell
  have HTG : Hid (tag5 [r0, r1, r2, r3, r4] [s0, s1, s2, s3, s4] [x0, x1, x2, x3, x4] rest = bytes5 (overUp (plus5 (whole5 (if rest = [] then [x0, x1, x2, x3, x4] else step5 [r0, r1, r2, r3, r4] [x0, x1, x2, x3, x4] rest)) [s0, s1, s2, s3, s4]) 4)) := rfl
  have HX := Lib.hid hx
  have HS1 : Hid (Sp w0 F0 (w.alloc (.cells #[.int .u64 x0, .int .u64 x1, .int .u64 x2, .int .u64 x3, .int .u64 x4] 191)) _) := Lib.hid (S.box #[.int .u64 x0, .int .u64 x1, .int .u64 x2, .int .u64 x3, .int .u64 x4] 191)
  clear S hr hs hl hx
  go_enter Tryz.func161, Tryz.ntmps161
  go_upto_region 2 with (fail)
  generalize (w.alloc (.cells #[.int .u64 x0, .int .u64 x1, .int .u64 x2, .int .u64 x3, .int .u64 x4] 191)) = w1 at *
  generalize w.heap.size = g0 at *
  clear c0
  have c1 := ((Sp.pick [_, _] [1] (by decide) (HS1.out))).cell
  go_upto_if 13 with (fail)
  clear c1
  go_cut [] (fun wx => ∃ y0 y1 y2 y3 y4 : Nat, (if rest = [] then [x0, x1, x2, x3, x4] else step5 [r0, r1, r2, r3, r4] [x0, x1, x2, x3, x4] rest) = [y0, y1, y2, y3, y4] ∧ Limbs [y0, y1, y2, y3, y4] ∧ Sp w0 F0 wx (boxR g0 #[.int .u64 y0, .int .u64 y1, .int .u64 y2, .int .u64 y3, .int .u64 y4] 191 :: polyPart p r0 r1 r2 r3 r4 s0 s1 s2 s3 s4 x0 x1 x2 x3 x4 rest :: L))
  case first =>
    by_cases hre : rest = []
    · subst hre
      go_wp2_with fail
      go_meet
      exact ⟨x0, x1, x2, x3, x4, by simp, HX.out, HS1.out⟩
    · have hne : (!rest.isEmpty) = true := by cases rest with | nil => exact absurd rfl hre | cons a b => rfl
      rw [hne]
      obtain ⟨z0, z1, z2, z3, z4, hz⟩ := limbs5 (step5_limbs [r0, r1, r2, r3, r4] [x0, x1, x2, x3, x4] rest)
      have HZ : Hid (Limbs [z0, z1, z2, z3, z4]) := by
        have := step5_limbs [r0, r1, r2, r3, r4] [x0, x1, x2, x3, x4] rest
        rw [hz] at this
        exact this
      have HST := Lib.hid (fun (W : World) (S' : Sp w0 F0 W (polyPart p r0 r1 r2 r3 r4 s0 s1 s2 s3 s4 x0 x1 x2 x3 x4 rest :: boxR g0 #[.int .u64 x0, .int .u64 x1, .int .u64 x2, .int .u64 x3, .int .u64 x4] 191 :: L)) => poStep p r0 r1 r2 r3 r4 s0 s1 s2 s3 s4 x0 x1 x2 x3 x4 rest [x0, x1, x2, x3, x4] rest HX.out HR.out (by have := HL.out; omega) S')
      rw [hz] at HST
      have HST : Hid (∀ (W : World) (S' : Sp w0 F0 W (polyPart p r0 r1 r2 r3 r4 s0 s1 s2 s3 s4 x0 x1 x2 x3 x4 rest :: boxR g0 #[.int .u64 x0, .int .u64 x1, .int .u64 x2, .int .u64 x3, .int .u64 x4] 191 :: L)), Calls Tryz.prog 179 #[.pointer (some ⟨p, 0, none⟩), .agg #[.int .u64 x0, .int .u64 x1, .int .u64 x2, .int .u64 x3, .int .u64 x4], .string ⟨rest.toArray⟩] W fun e w2 => e = .returned (.agg #[.int .u64 z0, .int .u64 z1, .int .u64 z2, .int .u64 z3, .int .u64 z4]) ∧ Sp w0 F0 w2 (polyPart p r0 r1 r2 r3 r4 s0 s1 s2 s3 s4 x0 x1 x2 x3 x4 rest :: boxR g0 #[.int .u64 x0, .int .u64 x1, .int .u64 x2, .int .u64 x3, .int .u64 x4] 191 :: L)) := HST
      have HIF : Hid ((if rest = [] then [x0, x1, x2, x3, x4] else step5 [r0, r1, r2, r3, r4] [x0, x1, x2, x3, x4] rest) = [z0, z1, z2, z3, z4]) := by
        unfold Hid
        rw [if_neg hre, hz]
      clear hz hre
      go_upto_region 3 with (fail)
      refine wp_region_chainG [0, 1, 2, 3, 4, 5, 6, 7] (fun c => c == 6 || c == 7) (fun c => c == 7) (T := fun wx => (∀ o, wx.cell? ⟨g0, o, none⟩ = (#[.int .u64 x0, .int .u64 x1, .int .u64 x2, .int .u64 x3, .int .u64 x4])[o]?) ∧ (∀ o, wx.cell? ⟨p, o, none⟩ = (#[.int .u64 r0, .int .u64 r1, .int .u64 r2, .int .u64 r3, .int .u64 r4, .int .u64 s0, .int .u64 s1, .int .u64 s2, .int .u64 s3, .int .u64 s4, .int .u64 x0, .int .u64 x1, .int .u64 x2, .int .u64 x3, .int .u64 x4, .string ⟨rest.toArray⟩])[o]?)) (S := fun wx => Sp w0 F0 wx (polyPart p r0 r1 r2 r3 r4 s0 s1 s2 s3 s4 x0 x1 x2 x3 x4 rest :: boxR g0 #[.int .u64 x0, .int .u64 x1, .int .u64 x2, .int .u64 x3, .int .u64 x4] 191 :: L)) (by kernel_rfl) (by kernel_rfl) (by kernel_rfl) HS1.out.pull1.drew (fun x h => ⟨((Sp.pick [_, _] [1] (by decide) (h))).cell, h.cell⟩) ?_
      repeat
        refine Exists.intro _ (And.intro rfl (Or.inl (Exists.intro ?_ (And.intro (fun wS hS K hK => ?_) (And.intro ?_ ?_)))))
        rotate_left 1
        · obtain ⟨t0, t1⟩ := hS
          first
            | (refine if_unwanted rfl ?_; simp only [Act.put, List.setIfInBounds_toArray, List.set_cons_zero, List.set_cons_succ]; exact hK.out)
            | (refine if_wanted rfl ?_; go_simp; exact hK.out)
        · rfl
      refine ChainG.one rfl rfl rfl (fun wS hS R hR => ?_)
      go_simp
      go_at_call 179
      refine (HST.out wS hS).mono ?_
      rintro e w7 ⟨rfl, S7⟩
      refine hR.out _ _ rfl (fun wx => (∀ o, wx.cell? ⟨g0, o, none⟩ = (#[.int .u64 x0, .int .u64 x1, .int .u64 x2, .int .u64 x3, .int .u64 x4])[o]?) ∧ (∀ o, wx.cell? ⟨p, o, none⟩ = (#[.int .u64 r0, .int .u64 r1, .int .u64 r2, .int .u64 r3, .int .u64 r4, .int .u64 s0, .int .u64 s1, .int .u64 s2, .int .u64 s3, .int .u64 s4, .int .u64 x0, .int .u64 x1, .int .u64 x2, .int .u64 x3, .int .u64 x4, .string ⟨rest.toArray⟩])[o]?)) (fun wx => Sp w0 F0 wx (polyPart p r0 r1 r2 r3 r4 s0 s1 s2 s3 s4 x0 x1 x2 x3 x4 rest :: boxR g0 #[.int .u64 x0, .int .u64 x1, .int .u64 x2, .int .u64 x3, .int .u64 x4] 191 :: L)) S7 (fun x h => ⟨((Sp.pick [_, _] [1] (by decide) (h))).cell, h.cell⟩) (fun _ h => h) ?_
      clear hR hS S7
      repeat
        refine Exists.intro _ (And.intro rfl (Or.inl (Exists.intro ?_ (And.intro (fun wS hS K hK => ?_) (And.intro ?_ ?_)))))
        rotate_left 1
        · obtain ⟨t0, t1⟩ := hS
          first
            | (refine if_unwanted rfl ?_; simp only [Act.put, List.setIfInBounds_toArray, List.set_cons_zero, List.set_cons_succ]; exact hK.out)
            | (refine if_wanted rfl ?_; go_simp; exact hK.out)
        · rfl
      refine ChainG.two rfl rfl rfl rfl (fun wS hS R hR => ?_)
      have c1 := hS.pull1.cell
      have f1 := hS.pull1.free
      have HP := Lib.hid (hS.pull1.put5 (.int .u64 z0) (.int .u64 z1) (.int .u64 z2) (.int .u64 z3) (.int .u64 z4))
      go_simp
      refine hR.out _ _ rfl (fun wx => True) (fun wx => Sp w0 F0 wx (boxR g0 #[.int .u64 z0, .int .u64 z1, .int .u64 z2, .int .u64 z3, .int .u64 z4] 191 :: polyPart p r0 r1 r2 r3 r4 s0 s1 s2 s3 s4 x0 x1 x2 x3 x4 rest :: L)) HP.out (fun _ _ => trivial)  ?_
      clear hR
      repeat
        refine Exists.intro _ (And.intro rfl (Or.inl (Exists.intro ?_ (And.intro (fun wS hS K hK => ?_) (And.intro ?_ ?_)))))
        rotate_left 1
        · have t0 := hS
          first
            | (refine if_unwanted rfl ?_; simp only [Act.put, List.setIfInBounds_toArray, List.set_cons_zero, List.set_cons_succ]; exact hK.out)
            | (refine if_wanted rfl ?_; go_simp; exact hK.out)
        · rfl
      intro wE hE
      have HSE := Lib.hid hE
      clear hE
      go_wp2_with fail
      go_meet
      exact ⟨z0, z1, z2, z3, z4, HIF.out, HZ.out, HSE.out⟩
  case rest =>
    clear HS1
    obtain ⟨y0, y1, y2, y3, y4, hif, hy, S⟩ := hcut
    rw [hif] at HTG
    have HY := Lib.hid hy
    have HS1 := Lib.hid S
    clear S hif hy HX
    have HWL := Lib.hid (whole5_limbs HY.out)
    obtain ⟨z0, z1, z2, z3, z4, hz⟩ := limbs5 (plusUp_limbs HWL.out [s0, s1, s2, s3, s4] 5)
    have HZ : Hid (Limbs [z0, z1, z2, z3, z4]) := by
      have := plusUp_limbs HWL.out [s0, s1, s2, s3, s4] 5
      rw [hz] at this
      exact this
    have HC1 := Lib.hid (fun (W : World) (S' : Sp w0 F0 W (boxR g0 #[.int .u64 y0, .int .u64 y1, .int .u64 y2, .int .u64 y3, .int .u64 y4] 191 :: polyPart p r0 r1 r2 r3 r4 s0 s1 s2 s3 s4 x0 x1 x2 x3 x4 rest :: L)) => poWhole [y0, y1, y2, y3, y4] HY.out S')
    have HC1 : Hid (∀ (W : World) (S' : Sp w0 F0 W (boxR g0 #[.int .u64 y0, .int .u64 y1, .int .u64 y2, .int .u64 y3, .int .u64 y4] 191 :: polyPart p r0 r1 r2 r3 r4 s0 s1 s2 s3 s4 x0 x1 x2 x3 x4 rest :: L)), Calls Tryz.prog 180 #[.agg #[.int .u64 y0, .int .u64 y1, .int .u64 y2, .int .u64 y3, .int .u64 y4]] W fun e w2 => e = .returned (.agg (row64 (whole5 [y0, y1, y2, y3, y4]))) ∧ Sp w0 F0 w2 (boxR g0 #[.int .u64 y0, .int .u64 y1, .int .u64 y2, .int .u64 y3, .int .u64 y4] 191 :: polyPart p r0 r1 r2 r3 r4 s0 s1 s2 s3 s4 x0 x1 x2 x3 x4 rest :: L)) := HC1
    have HC2 := Lib.hid (fun (W : World) (S' : Sp w0 F0 W (boxR g0 #[.int .u64 y0, .int .u64 y1, .int .u64 y2, .int .u64 y3, .int .u64 y4] 191 :: polyPart p r0 r1 r2 r3 r4 s0 s1 s2 s3 s4 x0 x1 x2 x3 x4 rest :: L)) => poPlus (whole5 [y0, y1, y2, y3, y4]) [s0, s1, s2, s3, s4] HWL.out HSS.out S')
    unfold plus5 at HC2 HTG
    rw [hz] at HC2 HTG
    have HC2 : Hid (∀ (W : World) (S' : Sp w0 F0 W (boxR g0 #[.int .u64 y0, .int .u64 y1, .int .u64 y2, .int .u64 y3, .int .u64 y4] 191 :: polyPart p r0 r1 r2 r3 r4 s0 s1 s2 s3 s4 x0 x1 x2 x3 x4 rest :: L)), Calls Tryz.prog 181 #[.agg (row64 (whole5 [y0, y1, y2, y3, y4])), .agg #[.int .u64 s0, .int .u64 s1, .int .u64 s2, .int .u64 s3, .int .u64 s4]] W fun e w2 => e = .returned (.agg #[.int .u64 z0, .int .u64 z1, .int .u64 z2, .int .u64 z3, .int .u64 z4]) ∧ Sp w0 F0 w2 (boxR g0 #[.int .u64 y0, .int .u64 y1, .int .u64 y2, .int .u64 y3, .int .u64 y4] 191 :: polyPart p r0 r1 r2 r3 r4 s0 s1 s2 s3 s4 x0 x1 x2 x3 x4 rest :: L)) := HC2
    clear hz HWL HSS HR HL
    generalize whole5 [y0, y1, y2, y3, y4] = wh at *
    go_upto_region 4 with (fail)
    refine wp_region_chainG [0, 2, 3, 4, 5, 1, 6, 7] (fun c => c == 1 || c == 6 || c == 7) (fun c => c == 7) (T := fun wx => (∀ o, wx.cell? ⟨g0, o, none⟩ = (#[.int .u64 y0, .int .u64 y1, .int .u64 y2, .int .u64 y3, .int .u64 y4])[o]?) ∧ (∀ o, wx.cell? ⟨p, o, none⟩ = (#[.int .u64 r0, .int .u64 r1, .int .u64 r2, .int .u64 r3, .int .u64 r4, .int .u64 s0, .int .u64 s1, .int .u64 s2, .int .u64 s3, .int .u64 s4, .int .u64 x0, .int .u64 x1, .int .u64 x2, .int .u64 x3, .int .u64 x4, .string ⟨rest.toArray⟩])[o]?)) (S := fun wx => Sp w0 F0 wx (boxR g0 #[.int .u64 y0, .int .u64 y1, .int .u64 y2, .int .u64 y3, .int .u64 y4] 191 :: polyPart p r0 r1 r2 r3 r4 s0 s1 s2 s3 s4 x0 x1 x2 x3 x4 rest :: L)) (by kernel_rfl) (by kernel_rfl) (by kernel_rfl) HS1.out.drew (fun x h => ⟨h.cell, ((Sp.pick [_, _] [1] (by decide) (h))).cell⟩) ?_
    repeat
      refine Exists.intro _ (And.intro rfl (Or.inl (Exists.intro ?_ (And.intro (fun wS hS K hK => ?_) (And.intro ?_ ?_)))))
      rotate_left 1
      · obtain ⟨t0, t1⟩ := hS
        first
          | (refine if_unwanted rfl ?_; simp only [Act.put, List.setIfInBounds_toArray, List.set_cons_zero, List.set_cons_succ]; exact hK.out)
          | (refine if_wanted rfl ?_; go_simp; exact hK.out)
      · rfl
    refine ChainG.one rfl rfl rfl (fun wS hS R hR => ?_)
    go_simp
    go_at_call 180
    refine (HC1.out wS hS).mono ?_
    rintro e w7 ⟨rfl, S7⟩
    refine hR.out _ _ rfl (fun wx => (∀ o, wx.cell? ⟨g0, o, none⟩ = (#[.int .u64 y0, .int .u64 y1, .int .u64 y2, .int .u64 y3, .int .u64 y4])[o]?) ∧ (∀ o, wx.cell? ⟨p, o, none⟩ = (#[.int .u64 r0, .int .u64 r1, .int .u64 r2, .int .u64 r3, .int .u64 r4, .int .u64 s0, .int .u64 s1, .int .u64 s2, .int .u64 s3, .int .u64 s4, .int .u64 x0, .int .u64 x1, .int .u64 x2, .int .u64 x3, .int .u64 x4, .string ⟨rest.toArray⟩])[o]?)) (fun wx => Sp w0 F0 wx (boxR g0 #[.int .u64 y0, .int .u64 y1, .int .u64 y2, .int .u64 y3, .int .u64 y4] 191 :: polyPart p r0 r1 r2 r3 r4 s0 s1 s2 s3 s4 x0 x1 x2 x3 x4 rest :: L)) S7 (fun x h => ⟨h.cell, ((Sp.pick [_, _] [1] (by decide) (h))).cell⟩) (fun _ h => h) ?_
    clear hR hS S7
    repeat
      refine Exists.intro _ (And.intro rfl (Or.inl (Exists.intro ?_ (And.intro (fun wS hS K hK => ?_) (And.intro ?_ ?_)))))
      rotate_left 1
      · obtain ⟨t0, t1⟩ := hS
        first
          | (refine if_unwanted rfl ?_; simp only [Act.put, List.setIfInBounds_toArray, List.set_cons_zero, List.set_cons_succ]; exact hK.out)
          | (refine if_wanted rfl ?_; go_simp; exact hK.out)
      · rfl
    refine ChainG.one rfl rfl rfl (fun wS hS R hR => ?_)
    go_simp
    go_at_call 181
    refine (HC2.out wS hS).mono ?_
    rintro e w7 ⟨rfl, S7⟩
    refine hR.out _ _ rfl (fun wx => (∀ o, wx.cell? ⟨g0, o, none⟩ = (#[.int .u64 y0, .int .u64 y1, .int .u64 y2, .int .u64 y3, .int .u64 y4])[o]?) ∧ (∀ o, wx.cell? ⟨p, o, none⟩ = (#[.int .u64 r0, .int .u64 r1, .int .u64 r2, .int .u64 r3, .int .u64 r4, .int .u64 s0, .int .u64 s1, .int .u64 s2, .int .u64 s3, .int .u64 s4, .int .u64 x0, .int .u64 x1, .int .u64 x2, .int .u64 x3, .int .u64 x4, .string ⟨rest.toArray⟩])[o]?)) (fun wx => Sp w0 F0 wx (boxR g0 #[.int .u64 y0, .int .u64 y1, .int .u64 y2, .int .u64 y3, .int .u64 y4] 191 :: polyPart p r0 r1 r2 r3 r4 s0 s1 s2 s3 s4 x0 x1 x2 x3 x4 rest :: L)) S7 (fun x h => ⟨h.cell, ((Sp.pick [_, _] [1] (by decide) (h))).cell⟩) (fun _ h => h) ?_
    clear hR hS S7
    repeat
      refine Exists.intro _ (And.intro rfl (Or.inl (Exists.intro ?_ (And.intro (fun wS hS K hK => ?_) (And.intro ?_ ?_)))))
      rotate_left 1
      · obtain ⟨t0, t1⟩ := hS
        first
          | (refine if_unwanted rfl ?_; simp only [Act.put, List.setIfInBounds_toArray, List.set_cons_zero, List.set_cons_succ]; exact hK.out)
          | (refine if_wanted rfl ?_; go_simp; exact hK.out)
      · rfl
    refine ChainG.two rfl rfl rfl rfl (fun wS hS R hR => ?_)
    have c1 := hS.cell
    have f1 := hS.free
    have HP := Lib.hid (hS.put5 (.int .u64 z0) (.int .u64 z1) (.int .u64 z2) (.int .u64 z3) (.int .u64 z4))
    go_simp
    refine hR.out _ _ rfl (fun wx => True) (fun wx => Sp w0 F0 wx (boxR g0 #[.int .u64 z0, .int .u64 z1, .int .u64 z2, .int .u64 z3, .int .u64 z4] 191 :: polyPart p r0 r1 r2 r3 r4 s0 s1 s2 s3 s4 x0 x1 x2 x3 x4 rest :: L)) HP.out (fun _ _ => trivial)  ?_
    clear hR
    repeat
      refine Exists.intro _ (And.intro rfl (Or.inl (Exists.intro ?_ (And.intro (fun wS hS K hK => ?_) (And.intro ?_ ?_)))))
      rotate_left 1
      · have t0 := hS
        first
          | (refine if_unwanted rfl ?_; simp only [Act.put, List.setIfInBounds_toArray, List.set_cons_zero, List.set_cons_succ]; exact hK.out)
          | (refine if_wanted rfl ?_; go_simp; exact hK.out)
      · rfl
    intro wE hE
    have HSE := Lib.hid hE
    clear hE
    have HS2 : Hid (Sp w0 F0 wE (boxR g0 (row64 [z0, z1, z2, z3, z4]) 191 :: L)) := Lib.hid ((Sp.pick [_, _] [0] (by decide) (HSE.out)))
    clear HSE HC1 HC2 HS1
    generalize [z0, z1, z2, z3, z4] = m at *
    go_wp2_with fail
    go_loopw [28] (fun i wr => ∃ k : Nat, i = .int .i64 k ∧ k ≤ 4 ∧ Sp w0 F0 wr (boxR g0 (row64 (overUp m k)) 191 :: L)) (fun i _ => 4 - (intOf i).toNat)
    case atStart => exact ⟨0, rfl, by decide, HS2.out⟩
    case round =>
      clear HS2
      obtain ⟨k, rfl, hk, S⟩ := hrel
      have HS := Lib.hid S
      have HL := Lib.hid (overUp_limbs HZ.out k)
      clear S
      by_cases hlt : k < 4
      · have hlt' : (k : Int) < 4 := by omega
        have HU : Hid (overUp m (k + 1) = (addAt (overUp m k) (k + 1) ((overUp m k).getD k 0 / 67108864)).set k ((addAt (overUp m k) (k + 1) ((overUp m k).getD k 0 / 67108864)).getD k 0 % 67108864)) := rfl
        have HG : Hid ((addAt (overUp m k) (k + 1) ((overUp m k).getD k 0 / 67108864)).getD k 0 = (overUp m k).getD k 0) := by
          unfold addAt Hid
          simp [List.getD_eq_getElem?_getD, List.getElem?_set]
        rw [HG.out] at HU
        have HLT := Lib.hid (HL.out.getD k)
        have ck := HS.out.at64 (i := k) (by rw [HL.out.1]; omega)
        have ck1 := HS.out.at64 (i := k + 1) (by rw [HL.out.1]; omega)
        have fk := HS.out.free k
        have fk1 := HS.out.free (k + 1)
        have HP := HS.out.put64 (k + 1) (((overUp m k).getD (k + 1) 0 + (overUp m k).getD k 0 / 67108864) % 18446744073709551616) (addAt (overUp m k) (k + 1) ((overUp m k).getD k 0 / 67108864)) rfl
        have HP2 := Lib.hid (HP.put64 k ((overUp m k).getD k 0 % 67108864) _ HU.out.symm).drew
        clear HP HU HG
        have HAD := Lib.hid (add_64 ((overUp m k).getD (k + 1) 0) ((overUp m k).getD k 0 / 67108864))
        generalize (overUp m k).getD (k + 1) 0 = y at *
        generalize (overUp m k).getD k 0 = x at *
        have HSH := Lib.hid (shr_26 x)
        have HA := Lib.hid (and_26 x HLT.out)
        rw [← HAD.out, ← HSH.out, ← HA.out] at HP2
        go_wp2_with fail
        go_region
        all_goals
          go_wp2_with fail
          go_roundw
          case rel => exact ⟨k + 1, by go_num, by omega, HP2.out⟩
          case measure => simp [intOf]; omega
      · obtain rfl : k = 4 := by omega
        have bx := HS.out.boxed
        go_wp2_with (first
          | refine wpList_load_row rfl 191 _ rfl g0 rfl 191 (row64 (overUp m 4)) (0, 0) _ bx Tryz.underlying191 rfl (info5_of HL.out) ?_
          | fail)
        refine (poBytes _ HL.out HS.out).mono ?_
        rintro e w2 ⟨rfl, S⟩
        have HSN := Lib.hid S
        clear S HS bx
        go_wp2_with fail
        go_ret
        exact ⟨by rw [HTG.out]; rfl, HSN.out.drop⟩
set_option maxRecDepth 100000 in
set_option maxHeartbeats 2000000 in
theorem poTag (key t : Bs) (hk : key.length = 32) (ht : t.length ≤ 1000000) (S : Sp w0 F0 w L) : Calls Tryz.prog 141 #[.string ⟨key.toArray⟩, .string ⟨t.toArray⟩] w fun e w2 => e = .returned (.tuple #[.string ⟨(polyTag key t).toArray⟩, .int .i64 0]) ∧ Sp w0 F0 w2 L := by
  have HS0 := Lib.hid S
  have HT := Lib.hid ht
  have HK := Lib.hid hk
  have HPT : Hid (polyTag key t = tag5 (polyR key) (polyS key) (addAll (polyR key) (t.length / 16) zero5 t).1 (addAll (polyR key) (t.length / 16) zero5 t).2) := rfl
  have HLR : Hid (Limbs (polyR key)) := readUp_limbs _ _
  have HLS : Hid (Limbs (polyS key)) := readUp_limbs _ _
  clear S ht hk
  go_enter Tryz.func141, Tryz.ntmps141
  go_wp2_with fail
  refine (poNew key HK.out HS0.out).mono ?_
  rintro e w2 ⟨p, r0, r1, r2, r3, r4, s0, s1, s2, s3, s4, hr, hs, rfl, S⟩
  rw [hr] at HPT HLR
  rw [hs] at HPT HLS
  have HS1 := Lib.hid S
  have HAL := Lib.hid (addAll_limbs [r0, r1, r2, r3, r4] (t.length / 16) zero5 t zero5_limbs)
  have HAR := Lib.hid (addAll_rest [r0, r1, r2, r3, r4] (t.length / 16) zero5 t (Nat.le_refl _))
  clear S HS0 hr hs
  go_wp2_with fail
  refine (poAdd p r0 r1 r2 r3 r4 s0 s1 s2 s3 s4 t HLR.out HT.out HS1.out).mono ?_
  rintro e w3 ⟨z0, z1, z2, z3, z4, hz, rfl, S⟩
  have HS2 := Lib.hid S
  rw [hz] at HAL HPT
  generalize (addAll [r0, r1, r2, r3, r4] (t.length / 16) zero5 t).2 = rest at *
  clear S HS1 hz
  go_wp2_with fail
  refine (poTagM p r0 r1 r2 r3 r4 s0 s1 s2 s3 s4 z0 z1 z2 z3 z4 rest HLR.out HLS.out HAL.out HAR.out HS2.out).mono ?_
  rintro e w4 ⟨rfl, S⟩
  have HS3 := Lib.hid S
  clear S HS2
  go_wp2_with fail
  go_ret2
  exact ⟨by rw [HPT.out]; rfl, HS3.out⟩
end
end Go.Proofs.YtkenacggjffjnaaGreatDoor
