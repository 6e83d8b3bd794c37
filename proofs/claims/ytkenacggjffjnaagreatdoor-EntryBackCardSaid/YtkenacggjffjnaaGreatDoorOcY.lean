/- a real box, plainly: what is sealed is opened, whatever the blocks of the stream and the tags are, as long as they hang on their arguments alone. No program. octet: Same of the same, Xor. Conditions: the lengths fit. octet: Left of any word, FromLow. Conditions: the turn is 0 .. 31; at most eight bytes. octet: Same of any two texts. Conditions: the lengths fit. -/
import Derived.Test.YtkenacggjffjnaaGreatDoorBase
import Derived.Test.YtkenacggjffjnaaGreatDoorByt
import Derived.Test.YtkenacggjffjnaaGreatDoorOct
import Derived.Laws.IdiomStrings
import Derived.Lib.SlBytesRow
/-! BxP -/
set_option linter.unusedSimpArgs false
set_option linter.unusedVariables false
set_option linter.unnecessarySimpa false
namespace Go.Proofs.YtkenacggjffjnaaGreatDoor

def xorB (a b : Bs) : Bs := List.zipWith (fun x y => x ^^^ y) a b
theorem xorB_length (a b : Bs) (h : a.length ≤ b.length) : (xorB a b).length = a.length := by simp [xorB]; omega
theorem xorB_twice : ∀ (a b : Bs), a.length ≤ b.length → xorB (xorB a b) b = a
  | [], _, _ => by simp [xorB]
  | x :: a, [], h => by simp at h
  | x :: a, y :: b, h => by
    have ih := xorB_twice a b (by simpa using h)
    unfold xorB at *
    rw [List.zipWith_cons_cons, List.zipWith_cons_cons, ih, UInt8.xor_assoc, UInt8.xor_self, UInt8.xor_zero]
/-- What a real box is made of: blocks of a stream, tags. -/
structure Cipher where
  blk : Bs → Nat → Bs → Bs
  tag : Bs → Bs → Bs
  blen : ∀ k n z, (blk k n z).length = 64
  tlen : ∀ k t, (tag k t).length = 16
/-- The counter goes round at 2^32. -/
def Cipher.blocks (c : Cipher) (key nonce : Bs) : Nat → Nat → Bs
  | 0, _ => []
  | m + 1, n => c.blk key (n % 4294967296) nonce ++ c.blocks key nonce m (n + 1)
theorem Cipher.blocks_length (c : Cipher) (key nonce : Bs) : ∀ (m n : Nat), (c.blocks key nonce m n).length = 64 * m
  | 0, _ => rfl
  | m + 1, n => by
    rw [blocks, List.length_append, c.blen, c.blocks_length key nonce m]
    omega
def Cipher.stream (c : Cipher) (key nonce : Bs) (n : Nat) : Bs := (c.blocks key nonce ((n + 63) / 64) 1).take n
theorem Cipher.stream_length (c : Cipher) (key nonce : Bs) (n : Nat) : (c.stream key nonce n).length = n := by
  unfold Cipher.stream
  rw [List.length_take, c.blocks_length]
  omega
def fill16 (s : Bs) : Bs := if s.length % 16 = 0 then s else s ++ List.replicate (16 - s.length % 16) 0
def low8 : Nat → Nat → Bs
  | 0, _ => []
  | k + 1, n => UInt8.ofNat (n % 256) :: low8 k (n / 256)
def covered (data sealed_ : Bs) : Bs := fill16 data ++ fill16 sealed_ ++ low8 8 data.length ++ low8 8 sealed_.length
def Cipher.tagOf (c : Cipher) (key nonce data sealed_ : Bs) : Bs := c.tag ((c.blk key 0 nonce).take 32) (covered data sealed_)
def Cipher.shut (c : Cipher) (key nonce data text : Bs) : Bs := xorB text (c.stream key nonce text.length) ++ c.tagOf key nonce data (xorB text (c.stream key nonce text.length))
/-- What is opened; none: the tag is wrong. -/
def Cipher.open (c : Cipher) (key nonce data s : Bs) : Option Bs :=
  if c.tagOf key nonce data (s.take (s.length - 16)) = s.drop (s.length - 16) then some (xorB (s.take (s.length - 16)) (c.stream key nonce (s.length - 16))) else none
theorem Cipher.shut_length (c : Cipher) (key nonce data text : Bs) : (c.shut key nonce data text).length = text.length + 16 := by
  unfold Cipher.shut Cipher.tagOf
  rw [List.length_append, c.tlen, xorB_length _ _ (by rw [c.stream_length]; exact Nat.le_refl _)]
theorem Cipher.open_shut (c : Cipher) (key nonce data text : Bs) : c.open key nonce data (c.shut key nonce data text) = some text := by
  have hx : (xorB text (c.stream key nonce text.length)).length = text.length := xorB_length _ _ (by rw [c.stream_length]; exact Nat.le_refl _)
  unfold Cipher.open
  rw [c.shut_length, Nat.add_sub_cancel]
  have h1 : (c.shut key nonce data text).take text.length = xorB text (c.stream key nonce text.length) := by
    unfold Cipher.shut
    rw [List.take_append_of_le_length (by omega), List.take_of_length_le (by omega)]
  have h2 : (c.shut key nonce data text).drop text.length = c.tagOf key nonce data (xorB text (c.stream key nonce text.length)) := by
    unfold Cipher.shut
    rw [List.drop_append_of_le_length (by omega), List.drop_of_length_le (by omega), List.nil_append]
  rw [h1, h2, if_pos rfl, xorB_twice _ _ (by rw [c.stream_length]; exact Nat.le_refl _)]
theorem Cipher.blocks_snoc (c : Cipher) (key nonce : Bs) : ∀ (m n : Nat), c.blocks key nonce (m + 1) n = c.blocks key nonce m n ++ c.blk key ((n + m) % 4294967296) nonce
  | 0, n => by
    unfold Cipher.blocks
    simp [Cipher.blocks]
  | m + 1, n => by
    rw [Cipher.blocks, c.blocks_snoc key nonce m (n + 1)]
    conv => rhs; rw [Cipher.blocks]
    rw [List.append_assoc, show n + 1 + m = n + (m + 1) by omega]
/-- n bytes of a stream from a counter on. -/
def Cipher.streamAt (c : Cipher) (key nonce : Bs) (k n : Nat) : Bs := (c.blocks key nonce ((n + 63) / 64) k).take n
theorem Cipher.streamAt_length (c : Cipher) (key nonce : Bs) (k n : Nat) : (c.streamAt key nonce k n).length = n := by
  unfold Cipher.streamAt
  rw [List.length_take, c.blocks_length]
  omega
theorem Cipher.streamAt_one (c : Cipher) (key nonce : Bs) (n : Nat) : c.streamAt key nonce 1 n = c.stream key nonce n := rfl
end Go.Proofs.YtkenacggjffjnaaGreatDoor

/-! OcX -/
namespace Go.Proofs.YtkenacggjffjnaaGreatDoor
open Go.RowKit

section
variable {w0 w : World} {F0 : List Nat} {L : List Res} {v : Value}
theorem xor_self8 (c : UInt8) : bits .xor .u8 (c.toNat : Int) (c.toNat : Int) = 0 := by
  unfold bits
  simp [IntKind.wrap, IntKind.signed]
theorem or_zero8 : bits .or .u8 0 0 = 0 := by decide
set_option maxRecDepth 100000 in
set_option maxHeartbeats 1000000 in
theorem octSame_eq (s : Bs) (w : World) (hs : s.length ≤ 1000000000) : Calls Tryz.prog 120 #[.string ⟨s.toArray⟩, .string ⟨s.toArray⟩] w fun e w2 => e = .returned (.bool true) ∧ ∃ q, w2 = w.drewN q := by
  have hs' : (s.length : Int) ≤ 1000000000 := by omega
  go_enter Tryz.func120, Tryz.ntmps120
  go_wp2_with fail
  go_loopw [5, 14] (fun u i wr => ∃ k q : Nat, u = .int .u8 0 ∧ i = .int .i64 k ∧ k ≤ s.length ∧ wr = w.drewN q) (fun _ i _ => s.length - (intOf i).toNat)
  case atStart => exact ⟨0, 0, rfl, rfl, Nat.zero_le _, rfl⟩
  case round =>
    obtain ⟨k, q, rfl, rfl, hk, rfl⟩ := hrel
    by_cases hlt : k < s.length
    · have hlt' : (k : Int) < s.length := by omega
      have hix := fun w' => idx_str s k hlt (k : Int) rfl w'
      have hx := xor_self8 s[k]
      have ho := or_zero8
      generalize s[k] = c at *
      go_wp2_with fail
      go_region
      all_goals
        go_wp2_with fail
        go_roundw
        case rel => exact ⟨k + 1, q + 1, by simp [hx, ho], by go_num, by omega, rfl⟩
        case measure => simp [intOf]; omega
    · go_wp2
      go_ret
      exact ⟨rfl, q, rfl⟩
/-- A block that a text's bytes were laid in (by a conversion). -/
abbrev convY (b : Nat) (l : Bs) : Res where
  holds := fun F w => F = [b] ∧ ∃ (C : Array Value) (m : Nat), w.heap[b]? = some (.cells C 5 (C.size, m)) ∧ l.length ≤ C.size ∧ ∀ i, (h : i < l.length) → C[i]? = some (bv l[i])
  keeps := fun ⟨h1, C, m, h2, h3⟩ hx hd => ⟨h1, C, m, hx.heap h2 (hd b (by simp [h1])), h3⟩
  inside := fun h x hx => by
    obtain ⟨h1, C, m, h2, _⟩ := h
    rw [h1] at hx
    simp at hx
    subst hx
    exact heap_lt h2
theorem Sp.convNewY (S : Sp w0 F0 w L) (l : Bs) (c : Nat) : Sp w0 F0 (w.drew.alloc (.cells (bytesRow ⟨l.toArray⟩ c) 5 ((bytesRow ⟨l.toArray⟩ c).size, (bytesRow ⟨l.toArray⟩ c).size + 1))) (convY w.heap.size l :: L) := by
  refine S.gain (G := [w.heap.size]) (((Ext.refl [] w).drew).alloc _) ⟨rfl, bytesRow ⟨l.toArray⟩ c, _, (MapKept.heap_alloc w.drew _).1, ?_, fun i h => ?_⟩ (by simp)
  · unfold bytesRow
    simp
  · unfold bytesRow
    rw [Array.getElem?_append_left (by simpa using h)]
    simp [h]
theorem Sp.convYCell {b : Nat} {l : Bs} (S : Sp w0 F0 w (convY b l :: L)) {i : Nat} (h : i < l.length) : w.cell? ⟨b, i, none⟩ = some (bv l[i]) := by
  obtain ⟨F, ⟨rfl, C, m, h2, h3, h4⟩, _⟩ := S.take
  have := h4 i h
  simp [World.cell?, h2, this]
theorem Sp.convYFree {b : Nat} {l : Bs} (S : Sp w0 F0 w (convY b l :: L)) {i : Nat} (h : i < l.length) : w.frozen? ⟨b, i, none⟩ = false := by
  obtain ⟨F, ⟨rfl, C, m, h2, h3, h4⟩, _⟩ := S.take
  simp [World.frozen?, h2]
  omega
theorem Sp.convYSet {b : Nat} {l : Bs} (S : Sp w0 F0 w (convY b l :: L)) {i : Nat} (h : i < l.length) (c : UInt8) : Sp w0 F0 (w.setCell ⟨b, i, none⟩ (bv c)) (convY b (l.set i c) :: L) := by
  obtain ⟨F, ⟨rfl, C, m, h2, h3, h4⟩, h5⟩ := S.take
  refine h5 _ _ [b] ⟨rfl, C.setIfInBounds i (bv c), m, ?_, by simpa using h3, fun j hj => ?_⟩ (Moved.of_ext ((Ext.refl _ w).setCell (by simp) _))
  · have := setCell_heap (o := i) h2 (bv c)
    simpa using this
  · have hj' : j < l.length := by simpa using hj
    rw [List.getElem_set, Array.getElem?_setIfInBounds]
    by_cases e : i = j
    · subst e
      rw [if_pos rfl, if_pos rfl, if_pos (by omega)]
    · rw [if_neg e, if_neg e]
      exact h4 j hj'
def xorTo (a b : Bs) (k : Nat) : Bs := (List.range a.length).map fun i => if i < k then a.getD i 0 ^^^ b.getD i 0 else a.getD i 0
theorem xorTo_length (a b : Bs) (k : Nat) : (xorTo a b k).length = a.length := by simp [xorTo]
theorem xorTo_zero (a b : Bs) : xorTo a b 0 = a := by
  apply List.ext_getElem (by simp [xorTo])
  intro i h1 h2
  simp [xorTo, List.getD_eq_getElem?_getD, List.getElem?_eq_getElem h2]
theorem xorTo_step (a b : Bs) (k : Nat) (h : k < a.length) (h2 : k < b.length) : (xorTo a b k).set k (a[k] ^^^ b[k]) = xorTo a b (k + 1) := by
  apply List.ext_getElem (by simp [xorTo])
  intro i h3 h4
  rw [List.getElem_set]
  by_cases e : k = i
  · subst e
    rw [if_pos rfl]
    simp [xorTo, List.getD_eq_getElem?_getD, List.getElem?_eq_getElem h, List.getElem?_eq_getElem h2]
  · rw [if_neg e]
    simp only [xorTo, List.getElem_map, List.getElem_range]
    by_cases e2 : i < k
    · rw [if_pos e2, if_pos (by omega)]
    · rw [if_neg e2, if_neg (by omega)]
theorem xorTo_get (a b : Bs) (k : Nat) (h : k < a.length) : (xorTo a b k)[k]'(by rw [xorTo_length]; exact h) = a[k] := by
  simp [xorTo, List.getD_eq_getElem?_getD, List.getElem?_eq_getElem h]
theorem xorTo_all (a b : Bs) (h : a.length = b.length) : xorTo a b a.length = xorB a b := by
  apply List.ext_getElem (by simp [xorTo, xorB, h])
  intro i h1 h2
  have ha : i < a.length := by simpa [xorTo] using h1
  have hb : i < b.length := by omega
  simp [xorTo, xorB, List.getD_eq_getElem?_getD, List.getElem?_eq_getElem ha, List.getElem?_eq_getElem hb, ha]
theorem xor_8 (c d : UInt8) : bits .xor .u8 (c.toNat : Int) (d.toNat : Int) = ((c ^^^ d).toNat : Int) := by
  have hc := c.toNat_lt
  have hd := d.toNat_lt
  have hx : c.toNat ^^^ d.toNat < 2 ^ 8 := Nat.xor_lt_two_pow hc hd
  rw [UInt8.toNat_xor]
  unfold bits
  simp [IntKind.wrap, IntKind.signed, IntKind.bits]
  show ((c.toNat ^^^ d.toNat : Nat) : Int) % 256 = ((c.toNat ^^^ d.toNat : Nat) : Int)
  omega
set_option maxRecDepth 100000 in
set_option maxHeartbeats 2000000 in
theorem octXorS (a b : Bs) (h : a.length = b.length) (hs : a.length ≤ 1000000000) (S : Sp w0 F0 w L) : Calls Tryz.prog 139 #[.string ⟨a.toArray⟩, .string ⟨b.toArray⟩] w fun e w2 => e = .returned (.tuple #[.string ⟨(xorB a b).toArray⟩, .int .i64 0]) ∧ Sp w0 F0 w2 L := by
  have hs' : (a.length : Int) ≤ 1000000000 := by omega
  have hcv := run_bytes_of_string (P := Tryz.prog) w 9 44 5 ⟨a.toArray⟩ Tryz.underlying9 Tryz.underlying44 Tryz.underlying5
  have HS0 : Hid (Sp w0 F0 (w.alloc (.cells (bytesRow ⟨a.toArray⟩ (grownCap w b.length 0 5)) 5 ((bytesRow ⟨a.toArray⟩ (grownCap w b.length 0 5)).size, (bytesRow ⟨a.toArray⟩ (grownCap w b.length 0 5)).size + 1))).drew (convY w.heap.size a :: L)) := S.convNewY a (grownCap w b.length 0 5)
  have hne : ((a.length : Int) != b.length) = false := by simp [h]
  have HX0 := Lib.hid (xorTo_zero a b)
  clear S
  go_enter Tryz.func139, Tryz.ntmps139
  go_wp2_with fail
  generalize (w.alloc _).drew = w1 at *
  generalize w.heap.size = g at *
  generalize grownCap w b.length 0 5 = cap at *
  have HLA := Lib.hid h
  clear hcv h hne hs
  have hb' : (b.length : Int) ≤ 1000000000 := by have := HLA.out; omega
  clear hs'
  go_loopw [17] (fun i wr => ∃ k : Nat, i = .int .i64 k ∧ k ≤ b.length ∧ Sp w0 F0 wr (convY g (xorTo a b k) :: L)) (fun i _ => b.length - (intOf i).toNat)
  case atStart => exact ⟨0, rfl, Nat.zero_le _, by rw [HX0.out]; exact HS0.out⟩
  case round =>
    clear HS0 HX0
    obtain ⟨k, rfl, hk, S⟩ := hrel
    have HS := Lib.hid S
    clear S
    by_cases hlt : k < b.length
    · have hlt' : (k : Int) < b.length := by omega
      have hka : k < a.length := by have := HLA.out; omega
      have hkx : k < (xorTo a b k).length := by rw [xorTo_length]; exact hka
      have ck := HS.out.convYCell hkx
      rw [xorTo_get a b k hka] at ck
      have fk := HS.out.convYFree hkx
      have hix := fun w' => idx_str b k hlt (k : Int) rfl w'
      have hx := xor_8 a[k] b[k]
      have HST := Lib.hid (xorTo_step a b k hka hlt)
      have HN := Lib.hid (HS.out.drew.convYSet hkx (a[k] ^^^ b[k]))
      rw [HST.out] at HN
      clear HST hkx
      generalize a[k] = c at *
      generalize b[k] = d at *
      unfold bv at ck HN
      rw [← hx] at HN
      clear hx
      go_wp2_with fail
      go_region
      all_goals
        go_wp2_with fail
        go_roundw
        case rel => exact ⟨k + 1, by go_num, by omega, by exact HN.out⟩
        case measure => simp [intOf]; omega
    · obtain rfl : k = b.length := by omega
      have HXA := Lib.hid (xorTo_all a b HLA.out)
      rw [HLA.out] at HXA
      rw [HXA.out] at HS
      have hbl : (xorB a b).length = b.length := by rw [xorB_length _ _ (by rw [HLA.out]; exact Nat.le_refl _), HLA.out]
      have hcv := Lib.run_convert_whole (P := Tryz.prog) wr 44 5 9 Tryz.underlying44 Tryz.underlying5 Tryz.underlying9 g 0 ⟨(xorB a b).toArray⟩ (fun i hi => by
        have hi' : i < (xorB a b).length := hi
        rw [Nat.zero_add]
        exact HS.out.convYCell hi') cap
      have hz : (⟨(xorB a b).toArray⟩ : ByteArray).size = b.length := by rw [← hbl]; rfl
      rw [hz] at hcv
      have HD := Lib.hid HS.out.drop
      clear HS hz hbl HXA
      go_wp2
      go_ret2
      exact ⟨rfl, HD.out⟩
set_option maxRecDepth 100000 in
set_option maxHeartbeats 1000000 in
theorem octLow_any (x n : Nat) (w : World) (hn : n ≤ 64) : Calls Tryz.prog 176 #[.int .u64 x, .int .i64 n] w fun e w2 => e = .returned (.string ⟨(lowBs x n).toArray⟩) ∧ Ext [] w w2 := by
  have HB := Lib.hid (bytes_any x n w hn)
  have HX : Hid (Ext [] w (w.alloc (.cells (rowB (lowBs x n)) 5))) := (Ext.refl [] w).alloc _
  have hcv := Lib.run_convert_whole (P := Tryz.prog) (w.alloc (.cells (rowB (lowBs x n)) 5)) 44 5 9 Tryz.underlying44 Tryz.underlying5 Tryz.underlying9 w.heap.size 0 ⟨(lowBs x n).toArray⟩ (fun i hi => by
    have hi' : i < (lowBs x n).length := hi
    have hh : (w.alloc (.cells (rowB (lowBs x n)) 5)).heap[w.heap.size]? = some (.cells (rowB (lowBs x n)) 5 (0, 0)) := (MapKept.heap_alloc w _).1
    rw [Nat.zero_add]
    simp only [World.cell?, hh, rowB_get, List.getElem?_eq_getElem hi', Option.map_some]
    rfl) n
  have hz : (⟨(lowBs x n).toArray⟩ : ByteArray).size = n := lowB_length n x
  rw [hz] at hcv
  clear hn hz
  go_enter Tryz.func176, Tryz.ntmps176
  go_wp2_with fail
  refine HB.out.mono ?_
  rintro e w2 ⟨rfl, rfl⟩
  go_wp2
  go_ret
  exact ⟨rfl, HX.out⟩
end
end Go.Proofs.YtkenacggjffjnaaGreatDoor

/-! OcL -/
namespace Go.Proofs.YtkenacggjffjnaaGreatDoor
open Go.RowKit

section
variable {w0 w : World} {F0 : List Nat} {L : List Res} {v : Value}
/-- A word turned to the left. -/
def rotW (x n : Nat) : Nat := (x * 2 ^ (n % 32) % 4294967296) ||| (x / 2 ^ (32 - n % 32))
theorem rotW_lt (x n : Nat) (hx : x < 4294967296) : rotW x n < 4294967296 := by
  unfold rotW
  exact Nat.or_lt_two_pow (n := 32) (Nat.mod_lt _ (by decide)) (Nat.lt_of_le_of_lt (Nat.div_le_self _ _) hx)
theorem or_32 (a b : Nat) (ha : a < 4294967296) (hb : b < 4294967296) : bits .or .u32 (a : Int) (b : Int) = ((a ||| b : Nat) : Int) := by
  have hx : a ||| b < 2 ^ 32 := Nat.or_lt_two_pow ha hb
  unfold bits
  simp [IntKind.wrap, IntKind.signed, IntKind.bits]
  have e : (BitVec.ofNat 32 a ||| BitVec.ofNat 32 b).toNat = a ||| b := by
    rw [BitVec.toNat_or, BitVec.toNat_ofNat, BitVec.toNat_ofNat, Nat.mod_eq_of_lt ha, Nat.mod_eq_of_lt hb]
  have e2 : ((BitVec.ofNat 32 a ||| BitVec.ofNat 32 b).toNat : Int) = ((a ||| b : Nat) : Int) := by rw [e]
  show ((BitVec.ofNat 32 a ||| BitVec.ofNat 32 b).toNat : Int) % 4294967296 = ((a ||| b : Nat) : Int)
  rw [e2]
  omega
theorem rotW_bits (x n : Nat) (hx : x < 4294967296) : bits .or .u32 ((x : Int) * 2 ^ (n % 32) % 4294967296) ((x : Int) / 2 ^ (32 - n % 32)) = (rotW x n : Int) := by
  have h := or_32 (x * 2 ^ (n % 32) % 4294967296) (x / 2 ^ (32 - n % 32)) (Nat.mod_lt _ (by decide)) (Nat.lt_of_le_of_lt (Nat.div_le_self _ _) hx)
  rw [rotW, ← h]
  congr 1 <;> push_cast <;> rfl
theorem octLeft (x n : Nat) (hx : x < 4294967296) (hn : n < 32) (w : World) : Calls Tryz.prog 191 #[.int .u32 x, .int .i64 n] w fun e w2 => e = .returned (.int .u32 (rotW x n)) ∧ w2 = w := by
  have hb := rotW_bits x n hx
  go_enter Tryz.func191, Tryz.ntmps191
  go_wp2_with fail
  go_ret
  exact ⟨rfl, rfl⟩
/-- The number of bytes from the low end, the first k of them. -/
def fromLow (s : Bs) : Nat → Nat
  | 0 => 0
  | k + 1 => fromLow s k ||| ((s.getD k 0).toNat * 2 ^ (8 * k) % 18446744073709551616)
theorem fromLow_lt (s : Bs) : ∀ k, fromLow s k < 18446744073709551616
  | 0 => by simp [fromLow]
  | k + 1 => Nat.or_lt_two_pow (n := 64) (fromLow_lt s k) (Nat.mod_lt _ (by decide))
theorem or_64 (a b : Nat) (ha : a < 18446744073709551616) (hb : b < 18446744073709551616) : bits .or .u64 (a : Int) (b : Int) = ((a ||| b : Nat) : Int) := by
  have hx : a ||| b < 2 ^ 64 := Nat.or_lt_two_pow ha hb
  unfold bits
  simp [IntKind.wrap, IntKind.signed, IntKind.bits]
  have e : (BitVec.ofNat 64 a ||| BitVec.ofNat 64 b).toNat = a ||| b := by
    rw [BitVec.toNat_or, BitVec.toNat_ofNat, BitVec.toNat_ofNat, Nat.mod_eq_of_lt ha, Nat.mod_eq_of_lt hb]
  have e2 : ((BitVec.ofNat 64 a ||| BitVec.ofNat 64 b).toNat : Int) = ((a ||| b : Nat) : Int) := by rw [e]
  show ((BitVec.ofNat 64 a ||| BitVec.ofNat 64 b).toNat : Int) % 18446744073709551616 = ((a ||| b : Nat) : Int)
  rw [e2]
  omega
theorem wrap_64 (a : Nat) (x : Int) (k : Nat) (h : x = (a : Int)) : IntKind.u64.wrap (x * 2 ^ (8 * k)) = ((a * 2 ^ (8 * k) % 18446744073709551616 : Nat) : Int) := by
  subst h
  generalize hp : 8 * k = p
  have h2 : ((a * 2 ^ p : Nat) : Int) = (a : Int) * 2 ^ p := by rw [Int.natCast_mul, Int.natCast_pow]; rfl
  rw [← h2]
  generalize a * 2 ^ p = m
  simp only [IntKind.wrap, IntKind.signed, IntKind.bits]
  show ((m : Int) % 18446744073709551616) = ((m % 18446744073709551616 : Nat) : Int)
  omega
theorem wrap_8 (c : UInt8) : IntKind.u64.wrap (c.toNat : Int) = (c.toNat : Int) := by
  have h := c.toNat_lt
  simp only [IntKind.wrap, IntKind.signed, IntKind.bits]
  show ((c.toNat : Int) % 18446744073709551616) = (c.toNat : Int)
  omega
theorem fromLow_step (s : Bs) (k : Nat) : bits .or .u64 (fromLow s k : Int) (IntKind.u64.wrap (((s.getD k 0).toNat : Int) * 2 ^ (8 * k))) = (fromLow s (k + 1) : Int) := by
  have e : IntKind.u64.wrap (((s.getD k 0).toNat : Int) * 2 ^ (8 * k)) = (((s.getD k 0).toNat * 2 ^ (8 * k) % 18446744073709551616 : Nat) : Int) := wrap_64 _ _ k rfl
  rw [e, or_64 _ _ (fromLow_lt s k) (Nat.mod_lt _ (by decide))]
  rfl
theorem octFromLow (s : Bs) (h : s.length ≤ 8) (w : World) : Calls Tryz.prog 190 #[.string ⟨s.toArray⟩] w fun e w2 => e = .returned (.tuple #[.int .u64 (fromLow s s.length), .int .i64 0]) ∧ ∃ q, w2 = w.drewN q := by
  have hs' : (s.length : Int) ≤ 8 := by omega
  go_enter Tryz.func190, Tryz.ntmps190
  go_wp2_with fail
  go_loopw [4, 11] (fun x i wr => ∃ k q : Nat, x = .int .u64 (fromLow s k) ∧ i = .int .i64 k ∧ k ≤ s.length ∧ wr = w.drewN q) (fun _ i _ => s.length - (intOf i).toNat)
  case atStart => exact ⟨0, 0, rfl, rfl, Nat.zero_le _, rfl⟩
  case round =>
    obtain ⟨k, q, rfl, rfl, hk, rfl⟩ := hrel
    by_cases hlt : k < s.length
    · have hlt' : (k : Int) < s.length := by omega
      have hix := fun w' => idx_str s k hlt (k : Int) rfl w'
      have hk8 : (k : Int) < 8 := by omega
      have HG := Lib.hid (show s.getD k 0 = s[k] by simp [List.getD_eq_getElem?_getD, List.getElem?_eq_getElem hlt])
      have HF := Lib.hid (fromLow_step s k)
      rw [HG.out] at HF
      generalize s[k] = c at *
      go_wp2_with fail
      exact ⟨⟨k + 1, q, by first | rw [HF.out] | rw [wrap_8, HF.out], by go_num, by omega, rfl⟩, by simp [intOf]; omega⟩
    · obtain rfl : k = s.length := by omega
      go_wp2
      go_ret2
      exact ⟨rfl, q, rfl⟩
end
end Go.Proofs.YtkenacggjffjnaaGreatDoor

/-! OcS -/
namespace Go.Proofs.YtkenacggjffjnaaGreatDoor
open Go.RowKit

section
variable {w0 w : World} {F0 : List Nat} {L : List Res} {v : Value}
def unlikeUp (a b : Bs) : Nat → UInt8
  | 0 => 0
  | k + 1 => unlikeUp a b k ||| (a.getD k 0 ^^^ b.getD k 0)
theorem unlike_zero (a b : Bs) : ∀ k, unlikeUp a b k = 0 ↔ ∀ i, i < k → a.getD i 0 = b.getD i 0
  | 0 => by simp [unlikeUp]
  | k + 1 => by
    rw [unlikeUp, UInt8.or_eq_zero_iff, unlike_zero a b k, UInt8.xor_eq_zero_iff]
    constructor
    · rintro ⟨h1, h2⟩ i hi
      rcases Nat.lt_or_ge i k with h | h
      · exact h1 i h
      · obtain rfl : i = k := by omega
        exact h2
    · exact fun h => ⟨fun i hi => h i (by omega), h k (by omega)⟩
theorem unlike_same (a b : Bs) (h : a.length = b.length) : (unlikeUp a b a.length == 0) = decide (a = b) := by
  rw [Bool.eq_iff_iff, beq_iff_eq, decide_eq_true_eq, unlike_zero]
  constructor
  · intro h1
    apply List.ext_getElem h
    intro i h2 h3
    have := h1 i h2
    simpa [List.getD_eq_getElem?_getD, List.getElem?_eq_getElem h2, List.getElem?_eq_getElem h3] using this
  · rintro rfl i _
    rfl
theorem or_8 (c d : UInt8) : bits .or .u8 (c.toNat : Int) (d.toNat : Int) = ((c ||| d).toNat : Int) := by
  have hc := c.toNat_lt
  have hd := d.toNat_lt
  have hx : c.toNat ||| d.toNat < 2 ^ 8 := Nat.or_lt_two_pow hc hd
  rw [UInt8.toNat_or]
  unfold bits
  simp [IntKind.wrap, IntKind.signed, IntKind.bits]
  show ((c.toNat ||| d.toNat : Nat) : Int) % 256 = ((c.toNat ||| d.toNat : Nat) : Int)
  omega
set_option maxRecDepth 100000 in
set_option maxHeartbeats 1000000 in
theorem octSame_any (a b : Bs) (ha : a.length ≤ 1000000000) (hb : b.length ≤ 1000000000) (S : Sp w0 F0 w L) : Calls Tryz.prog 120 #[.string ⟨a.toArray⟩, .string ⟨b.toArray⟩] w fun e w2 => e = .returned (.bool (decide (a = b))) ∧ Sp w0 F0 w2 L := by
  have HS := Lib.hid S
  have ha' : (a.length : Int) ≤ 1000000000 := by omega
  have hb' : (b.length : Int) ≤ 1000000000 := by omega
  clear S
  by_cases h : a.length = b.length
  · have HE := Lib.hid (unlike_same a b h)
    have HL := Lib.hid h
    have hne : ((a.length : Int) != b.length) = false := by simp [h]
    clear h
    go_enter Tryz.func120, Tryz.ntmps120
    go_wp2_with fail
    go_loopw [5, 14] (fun u i wr => ∃ k : Nat, u = .int .u8 ((unlikeUp a b k).toNat : Int) ∧ i = .int .i64 k ∧ k ≤ a.length ∧ Sp w0 F0 wr L) (fun _ i _ => a.length - (intOf i).toNat)
    case atStart => exact ⟨0, rfl, rfl, Nat.zero_le _, HS.out⟩
    case round =>
      clear HS
      obtain ⟨k, rfl, rfl, hk, S⟩ := hrel
      have HS := Lib.hid S
      clear S
      by_cases hlt : k < a.length
      · have hlt' : (k : Int) < a.length := by omega
        have hkb : k < b.length := by have := HL.out; omega
        have hix := fun w' => idx_str a k hlt (k : Int) rfl w'
        have hiy := fun w' => idx_str b k hkb (k : Int) rfl w'
        have HU : Hid (unlikeUp a b (k + 1) = unlikeUp a b k ||| (a.getD k 0 ^^^ b.getD k 0)) := rfl
        have HG1 : Hid (a.getD k 0 = a[k]) := by unfold Hid; simp [List.getD_eq_getElem?_getD, List.getElem?_eq_getElem hlt]
        have HG2 : Hid (b.getD k 0 = b[k]) := by unfold Hid; simp [List.getD_eq_getElem?_getD, List.getElem?_eq_getElem hkb]
        rw [HG1.out, HG2.out] at HU
        have hx := xor_8 a[k] b[k]
        have ho := or_8 (unlikeUp a b k) (a[k] ^^^ b[k])
        rw [← HU.out, UInt8.toNat_xor] at ho
        have HSD := Lib.hid HS.out.drew
        clear HG1 HG2 HU HS
        generalize a[k] = c at *
        generalize b[k] = d at *
        generalize unlikeUp a b k = u at *
        go_wp2_with fail
        go_region
        all_goals
          go_wp2_with fail
          go_roundw
          case rel => exact ⟨k + 1, by first | rw [ho] | (simp only [ho]) | rw [hx, UInt8.toNat_xor, ho], by go_num, by omega, HSD.out⟩
          case measure => simp [intOf]; omega
      · obtain rfl : k = a.length := by omega
        clear hlt
        generalize unlikeUp a b a.length = u at *
        go_wp2
        go_ret
        refine ⟨ret_bool ?_, HS.out⟩
        rw [← HE.out, Bool.eq_iff_iff]
        simp only [beq_iff_eq (a := (u.toNat : Int))]
        constructor
        · intro h
          rw [beq_iff_eq]
          exact UInt8.toNat_inj.1 (by simp; omega)
        · intro h
          rw [beq_iff_eq] at h
          rw [h]
          rfl
  · have hne : ((a.length : Int) != b.length) = true := by simp; omega
    have HD : Hid (decide (a = b) = false) := by
      unfold Hid
      rw [decide_eq_false_iff_not]
      rintro rfl
      exact h rfl
    clear h
    go_enter Tryz.func120, Tryz.ntmps120
    go_wp2
    go_ret
    exact ⟨by rw [HD.out]; rfl, HS.out⟩
end
end Go.Proofs.YtkenacggjffjnaaGreatDoor
