/- octet and pack: a number's bytes, and the number of bytes. Conditions: numbers below 2^64, lengths fit. octet: High. Conditions: lengths fit. pack: what is packed: Num, Text. Conditions: lengths fit. pack: what is taken: take, Num, Text, Done, Left, From. Conditions: the lengths fit. -/
import Derived.BigQuiet
import Derived.BigRegion
import Derived.Deep.OwnRows
import Derived.Deep.QuietTactic
import Derived.Deep.RegionWith
import Derived.Laws.BitsAllLaws
import Derived.Laws.BitsLemmas
import Derived.Laws.IdiomStrings
import Derived.Laws.NewBlocks
import Derived.Test.YtangbdahnmomlaaGreatDoorBu00
import Derived.Test.YtangbdahnmomlaaGreatDoorBu01
import Derived.Test.YtangbdahnmomlaaGreatDoorChecked
set_option linter.unnecessarySimpa false
set_option linter.unusedSimpArgs false
set_option linter.unusedVariables false
set_option maxHeartbeats 2000000
set_option maxRecDepth 100000
namespace Go.Proofs.YtangbdahnmomlaaGreatDoor
section
open Go.RowKit Go.Maps
theorem needF_pos (k m : Nat) (h : m ≠ 0) : needF (k + 1) m = needF k (m / 256) + 1:=by rw [needF,if_neg h]
theorem needF_zero (k : Nat) : needF k 0 = 0:=by cases k <;> simp [needF]
theorem need_any (n : Nat) (w : World) (hn : n < 18446744073709551616) :
    Calls Tryz.prog 133 #[.int .u64 n] w fun e w2 => e = .returned (.int .i64 (need n)) ∧ w = w2:=by
  have HN:=Lib.hid hn
  clear hn
  go_enter Tryz.func133,Tryz.ntmps133
  go_wp2
  go_loop [0,3] (fun x k => ∃ m j : Nat,x = .int .u64 m ∧ k = .int .i64 j ∧ j ≤ 8 ∧ m < 256 ^ (8 - j) ∧ needF (8 - j) m + j = need n) (fun x _ => (intOf x).toNat)
  case atStart => exact ⟨n,0,rfl,rfl,by omega,by simpa using HN.out,rfl⟩
  case round =>
    obtain ⟨m,j,rfl,rfl,hj,hm,he⟩:=hrel
    have HM:=Lib.hid hm
    have HE:=Lib.hid he
    clear hm he
    by_cases h0 : m = 0
    · subst h0
      go_wp2
      go_ret
      exact ⟨ret_int (by have:=HE.out; rw [needF_zero] at this; omega),rfl⟩
    · have hp : (0 : Int) < m:=by omega
      have hj8 : j < 8:=by
        rcases Nat.lt_or_ge j 8 with h | h
        · exact h
        · obtain rfl : j = 8:=by omega
          have:=HM.out
          simp at this
          omega
      have HE2 : Hid (needF (8 - (j + 1)) (m / 256) + (j + 1) = need n):=by
        have:=HE.out
        obtain ⟨i,hi⟩ : ∃ i,8 - j = i + 1:=⟨7 - j,by omega⟩
        rw [hi,needF_pos _ _ h0] at this
        unfold Hid
        rw [show 8 - (j + 1) = i by omega]
        omega
      have HM2 : Hid (m / 256 < 256 ^ (8 - (j + 1))):=by
        have:=HM.out
        obtain ⟨i,hi⟩ : ∃ i,8 - j = i + 1:=⟨7 - j,by omega⟩
        rw [hi,Nat.pow_succ] at this
        unfold Hid
        rw [show 8 - (j + 1) = i by omega]
        omega
      go_wp2
      go_round
      case rel => exact ⟨m / 256,j + 1,by go_num,by go_num,by omega,HM2.out,HE2.out⟩
      case measure => simp [intOf]; omega
theorem or_sum (x : Nat) (c : UInt8) (hx : x < 72057594037927936) : bits .or .u64 (IntKind.u64.wrap ((x : Int) * 256)) (IntKind.u64.wrap (c.toNat : Int)) = ((x * 256 + c.toNat : Nat) : Int):=by
  have hc:=c.toNat_lt
  have e1 : IntKind.u64.wrap ((x : Int) * 256) = ((x * 256 : Nat) : Int):=by rw [IntKind.wrap_u64]; omega
  have e2 : IntKind.u64.wrap (c.toNat : Int) = (c.toNat : Int):=by rw [IntKind.wrap_u64]; omega
  rw [e1,e2,u64_or_nat _ _ (by omega) (by omega)]
  have:=Nat.shiftLeft_add_eq_or_of_lt (i:=8) (b:=c.toNat) (by omega) x
  rw [Nat.shiftLeft_eq] at this
  rw [← this]
theorem take_next (s : Bs) (k : Nat) (h : k < s.length) : s.take (k + 1) = s.take k ++ [s[k]]:=List.take_succ_eq_append_getElem h
theorem ret_u64 {a b : Int} {v : Value} (h : a = b) : Ending.returned (.tuple #[.int .u64 a,v]) = Ending.returned (.tuple #[.int .u64 b,v]):=by rw [h]
theorem fromHigh_bytes (ba : ByteArray) (s : Bs) (w : World) (hs : s.length ≤ 8) (HT : Hid (ba.data.toList = s)) :
    Calls Tryz.prog 132 #[.string ba] w fun e w2 => e = .returned (.tuple #[.int .u64 (fromH s),.int .i64 0]) ∧ w = w2:=by
  have HS:=Lib.hid hs
  have HZ : Hid (ba.size = s.length):=by rw [← HT.out]; simp [Hid]
  have hsz : (ba.size : Int) ≤ 8:=by have:=HZ.out; omega
  have HG : Hid (∀ k (h : k < ba.size) (h2 : k < s.length),ba[k] = s[k]):=fun k h h2 => by
    have h3:=HT.out
    subst h3
    rfl
  clear hs
  go_enter Tryz.func132,Tryz.ntmps132
  go_wp2
  go_loop [4,11] (fun x i => ∃ k : Nat,k ≤ ba.size ∧ i = .int .i64 k ∧ x = .int .u64 (fromH (s.take k))) (fun _ i => ba.size - (intOf i).toNat)
  case atStart => exact ⟨0,Nat.zero_le _,rfl,rfl⟩
  case round =>
    obtain ⟨k,hk,rfl,rfl⟩:=hrel
    by_cases hlt : k < ba.size
    · have hk2 : k < s.length:=by have:=HZ.out; omega
      have hf:=fromH_lt _ (s.take k) rfl
      have HF : Hid (fromH (s.take k) < 72057594037927936):=by
        have h1 : (s.take k).length ≤ 7:=by rw [List.length_take]; have:=HS.out; omega
        have h3 : 256 ^ (s.take k).length ≤ 256 ^ 7:=Nat.pow_le_pow_right (by omega) h1
        unfold Hid
        omega
      clear hf
      go_wp2
      go_round
      case rel =>
        refine ⟨k + 1,by omega,by go_num,?_⟩
        rw [or_sum _ _ HF.out,take_next s k hk2,fromH_snoc,HG.out k hlt hk2]
      case measure => simp [intOf]; omega
    · go_wp2
      go_ret2
      exact ⟨ret_u64 (by rw [List.take_of_length_le (by have:=HZ.out; omega)]),rfl⟩
theorem fromHigh_any (s : Bs) (w : World) (hs : s.length ≤ 8) :
    Calls Tryz.prog 132 #[.string ⟨s.toArray⟩] w fun e w2 => e = .returned (.tuple #[.int .u64 (fromH s),.int .i64 0]) ∧ w = w2:=fromHigh_bytes ⟨s.toArray⟩ s w hs rfl
def lowBs (x : Nat) : Nat → Bs
  | 0 => []
  | n + 1 => UInt8.ofNat (x % 256) :: lowBs (x / 256) n
theorem lowB_length : ∀ (n x : Nat),(lowBs x n).length = n
  | 0,_ => rfl
  | n + 1,x => by simp [lowBs,lowB_length n]
theorem high_rev : ∀ (n x : Nat),(highB x n).reverse = lowBs x n
  | 0,_ => rfl
  | n + 1,x => by simp [highB,lowBs,high_rev n]
theorem lowB_snoc : ∀ (k x : Nat),lowBs x (k + 1) = lowBs x k ++ [UInt8.ofNat (x / 256 ^ k % 256)]
  | 0,x => by simp [lowBs]
  | k + 1,x => by
    rw [lowBs,lowB_snoc k,lowBs,List.cons_append,Nat.div_div_eq_div_mul,Nat.pow_succ,Nat.mul_comm 256]
def rowB (l : Bs) : Array Value:=(l.map bv).toArray
theorem made_rowB (n : Nat) : madeCells #[.int .u8 0] n = rowB (List.replicate n 0):=by
  apply Array.ext
  · simp [madeCells,rowB]
  · intro i h1 h2
    simp [madeCells,rowB,Nat.mod_one]
theorem rowB_set (l : Bs) (z c : UInt8) (r : Bs) : (rowB (l ++ z :: r)).setIfInBounds l.length (bv c) = rowB (l ++ c :: r):=by
  simp [rowB]
theorem rowB_get (l : Bs) (k : Nat) : (rowB l)[k]? = l[k]?.map bv:=by simp [rowB]
theorem u8_wrap (m : Nat) : (m : Int) % 256 = ((UInt8.ofNat (m % 256)).toNat : Int):=by simp
theorem bytes_any (x n : Nat) (w : World) (hn : n ≤ 64) :
    Calls Tryz.prog 149 #[.int .u64 x,.int .i64 n] w fun e w2 => e = .returned (.slice (some ⟨w.heap.size,0,none⟩) n n) ∧ w.alloc (.cells (rowB (lowBs x n)) 5) = w2:=by
  have hmk:=fun W => run_make_row' (P:=Tryz.prog) 79 5 (.int .u8 0) 1 Tryz.underlying79 (by kernel_rfl) rfl .i64 .i64 n (by omega) (by omega) W
  rw [made_rowB] at hmk
  have h0 : (0 : Int) ≤ n:=by omega
  have h64 : (n : Int) ≤ 64:=by omega
  obtain ⟨A0,hA0⟩ : ∃ A0,rowB (List.replicate n 0) = A0:=⟨_,rfl⟩
  rw [hA0] at hmk
  have HA0:=Lib.hid hA0
  clear hA0
  go_enter Tryz.func149,Tryz.ntmps149
  go_wp2
  go_loopw [0,13] (fun y i wr => ∃ k m : Nat,k ≤ n ∧ i = .int .i64 k ∧ y = .int .u64 m ∧ m = x / 256 ^ k ∧ w.alloc (.cells (rowB (lowBs x k ++ List.replicate (n - k) 0)) 5) = wr) (fun _ i _ => n - (intOf i).toNat)
  case atStart => exact ⟨0,x,Nat.zero_le _,rfl,rfl,by simp,by rw [← HA0.out]; rfl⟩
  case round =>
    obtain ⟨k,m,hk,rfl,rfl,hm,rfl⟩:=hrel
    have HM:=Lib.hid hm
    clear hm
    by_cases hlt : k < n
    · have e1 : List.replicate (n - k) (0 : UInt8) = 0 :: List.replicate (n - (k + 1)) 0:=by
        rw [show n - k = (n - (k + 1)) + 1 by omega,List.replicate_succ]
      have hget : (rowB (lowBs x k ++ List.replicate (n - k) 0))[k]? = some (.int .u8 0):=by
        rw [rowB_get,e1]; simp [lowB_length]
      have HSET : Hid ((rowB (lowBs x k ++ List.replicate (n - k) 0)).setIfInBounds k (.int .u8 ((m : Int) % 256)) = rowB (lowBs x (k + 1) ++ List.replicate (n - (k + 1)) 0)):=by
        have:=rowB_set (lowBs x k) 0 (UInt8.ofNat (m % 256)) (List.replicate (n - (k + 1)) 0)
        rw [lowB_length] at this
        unfold Hid
        rw [u8_wrap,e1,this,lowB_snoc,HM.out]
        simp
      clear e1
      generalize rowB (lowBs x k ++ List.replicate (n - k) 0) = A at *
      go_wp2
      go_roundw
      case rel => exact ⟨k + 1,m / 256,by omega,by go_num,by go_num,by rw [HM.out,Nat.pow_succ,Nat.div_div_eq_div_mul],by rw [HSET.out]⟩
      case measure => simp [intOf]; omega
    · obtain rfl : k = n:=by omega
      go_wp2
      go_ret
      exact ⟨rfl,by simp⟩
end
section
open Go.RowKit Go.Maps
def swapped (l : Bs) (k : Nat) : Bs:=(List.range l.length).map fun i => if i < k ∨ l.length - k ≤ i then l.getD (l.length - 1 - i) 0 else l.getD i 0
theorem swapped_length (l : Bs) (k : Nat) : (swapped l k).length = l.length:=by simp [swapped]
theorem swapped_get (l : Bs) (k i : Nat) (h : i < l.length) : (swapped l k)[i]? = some (if i < k ∨ l.length - k ≤ i then l.getD (l.length - 1 - i) 0 else l.getD i 0):=by
  simp [swapped,h]
theorem swapped_zero (l : Bs) : swapped l 0 = l:=by
  apply List.ext_getElem?
  intro i
  by_cases h : i < l.length
  · rw [swapped_get _ _ _ h,if_neg (by omega)]
    simp [h]
  · rw [List.getElem?_eq_none (by rw [swapped_length]; omega),List.getElem?_eq_none (by omega)]
theorem swapped_half (l : Bs) : swapped l (l.length / 2) = l.reverse:=by
  apply List.ext_getElem?
  intro i
  by_cases h : i < l.length
  · rw [swapped_get _ _ _ h,List.getElem?_reverse h]
    split
    · simp only [List.getD_eq_getElem?_getD]; rw [List.getElem?_eq_getElem (by omega)]; simp
    · have : l.length - 1 - i = i:=by omega
      rw [this]
      simp [h]
  · rw [List.getElem?_eq_none (by rw [swapped_length]; omega),List.getElem?_eq_none (by simp; omega)]
theorem swapped_step (l : Bs) (k : Nat) (h : k < l.length / 2) :
    ((rowB (swapped l k)).setIfInBounds k (bv (l.getD (l.length - 1 - k) 0))).setIfInBounds (l.length - 1 - k) (bv (l.getD k 0)) = rowB (swapped l (k + 1)):=by
  apply Array.ext_getElem?
  intro i
  rw [Array.getElem?_setIfInBounds,Array.getElem?_setIfInBounds,rowB_get,rowB_get]
  simp only [Array.size_setIfInBounds]
  have hsz : (rowB (swapped l k)).size = l.length:=by simp [rowB,swapped_length]
  rw [hsz]
  by_cases hi : i < l.length
  · rw [swapped_get _ _ _ hi,swapped_get _ _ _ hi]
    by_cases h1 : l.length - 1 - k = i
    · rw [if_pos h1,if_pos (by omega),if_pos (by omega),show l.length - 1 - i = k by omega]
      rfl
    · rw [if_neg h1]
      by_cases h2 : k = i
      · subst h2
        rw [if_pos rfl,if_pos hi,if_pos (by omega)]
        rfl
      · rw [if_neg h2]
        by_cases h3 : i < k ∨ l.length - k ≤ i
        · rw [if_pos h3,if_pos (by omega)]
        · rw [if_neg h3,if_neg (by omega)]
  · rw [if_neg (by omega),if_neg (by omega),List.getElem?_eq_none (by rw [swapped_length]; omega),List.getElem?_eq_none (by rw [swapped_length]; omega)]
theorem high_any (x n : Nat) (w : World) (hn : n ≤ 64) :
    Calls Tryz.prog 111 #[.int .u64 x,.int .i64 n] w fun e w2 => e = .returned (.string ⟨(highB x n).toArray⟩) ∧ Ext [] w w2:=by
  have HN:=Lib.hid hn
  have hn64 : (n : Int) ≤ 64:=by omega
  clear hn
  go_enter Tryz.func111,Tryz.ntmps111
  go_wp2_with fail
  refine (bytes_any x n w HN.out).mono ?_
  rintro e w1 ⟨rfl,rfl⟩
  have HL:=Lib.hid (lowB_length n x)
  have HR : Hid ((lowBs x n).reverse = highB x n):=by rw [← high_rev]; simp [Hid]
  have HB : Hid ((w.alloc (.cells (rowB (lowBs x n)) 5)).heap[w.heap.size]? = some (.cells (rowB (lowBs x n)) 5 (0,0))):=heap_alloc_new _ _
  have HX : Hid (Ext [] w (w.alloc (.cells (rowB (lowBs x n)) 5))):=(Ext.refl [] w).alloc _
  generalize w.alloc (.cells (rowB (lowBs x n)) 5) = w1 at *
  generalize lowBs x n = l at *
  go_wp2
  go_loopw [13] (fun i wr => ∃ k : Nat,k ≤ n / 2 ∧ i = .int .i64 k ∧ wr.heap[w.heap.size]? = some (.cells (rowB (swapped l k)) 5 (0,0)) ∧ Ext [] w wr) (fun i _ => n - (intOf i).toNat)
  case atStart => exact ⟨0,Nat.zero_le _,rfl,by rw [swapped_zero]; exact HB.out,HX.out⟩
  case round =>
    obtain ⟨k,hk,rfl,hb,hx⟩:=hrel
    have HB2:=Lib.hid hb
    have HX2:=Lib.hid hx
    clear hb hx HB HX
    by_cases hlt : k < n / 2
    · obtain ⟨j,hj⟩ : ∃ j : Nat,(n : Int) - 1 - k = j:=⟨n - 1 - k,by omega⟩
      have c1 : wr.cell? ⟨w.heap.size,k,none⟩ = some (bv (l.getD k 0)):=by
        rw [box_cell HB2.out,rowB_get,swapped_get _ _ _ (by have:=HL.out; omega),if_neg (by have:=HL.out; omega)]; rfl
      have c2 : wr.cell? ⟨w.heap.size,j,none⟩ = some (bv (l.getD j 0)):=by
        rw [box_cell HB2.out,rowB_get,swapped_get _ _ _ (by have:=HL.out; omega),if_neg (by have:=HL.out; omega)]; rfl
      have f : ∀ i,wr.frozen? ⟨w.heap.size,i,none⟩ = false:=fun i => box_free HB2.out
      have f1:=f k
      have f2:=f j
      have hkj : k ≠ j:=by omega
      have HJ : Hid (l.length - 1 - k = j):=by have:=HL.out; unfold Hid; omega
      have hjn : j < n:=by omega
      have hkn : k < n:=by omega
      have hjI : (j : Int) < n:=by omega
      have hkI : (k : Int) < n:=by omega
      have HB3 : Hid (((wr.setCell ⟨w.heap.size,k,none⟩ (.int .u8 ↑(l[j]?.getD 0).toNat)).setCell ⟨w.heap.size,j,none⟩ (.int .u8 ↑(l[k]?.getD 0).toNat)).drew.heap[w.heap.size]? = some (.cells (rowB (swapped l (k + 1))) 5 (0,0))):=by
        have:=heap_setCell_same (o:=j) (heap_setCell_same (o:=k) HB2.out (.int .u8 ↑(l[j]?.getD 0).toNat)) (.int .u8 ↑(l[k]?.getD 0).toNat)
        have h2:=swapped_step l k (by have:=HL.out; omega)
        rw [HJ.out,List.getD_eq_getElem?_getD,List.getD_eq_getElem?_getD] at h2
        rw [h2] at this
        exact this
      have HX3 : Hid (Ext [] w ((wr.setCell ⟨w.heap.size,k,none⟩ (.int .u8 ↑(l[j]?.getD 0).toNat)).setCell ⟨w.heap.size,j,none⟩ (.int .u8 ↑(l[k]?.getD 0).toNat)).drew) :=
        ((HX2.out.setCell (.inr (Nat.le_refl _)) _).setCell (.inr (Nat.le_refl _)) _).drew
      clear f
      go_wp2
      go_region
      generalize ((wr.setCell ⟨w.heap.size,k,none⟩ (.int .u8 ↑(l[j]?.getD 0).toNat)).setCell ⟨w.heap.size,j,none⟩ (.int .u8 ↑(l[k]?.getD 0).toNat)).drew = w3 at *
      clear c1 c2 f1 f2
      go_wp2
      go_roundw
      case rel => exact ⟨k + 1,by omega,by go_num,HB3.out,HX3.out⟩
      case measure => simp [intOf]; omega
    · have hk2 : k = n / 2:=by omega
      have hcv:=run_convert_bytes_back (P:=Tryz.prog) wr 79 9 5 ⟨w.heap.size,0,none⟩ n (swapped l k) Tryz.underlying79 Tryz.underlying5 Tryz.underlying9 (fun j hj => by
        have : (⟨w.heap.size,0,none⟩ : Addr).add j = ⟨w.heap.size,j,none⟩:=by unfold Addr.add; split <;> simp_all
        rw [this,box_cell HB2.out,rowB_get,List.getElem?_eq_getElem hj]; rfl)
      have HE : Hid (swapped l k = highB x n):=by rw [← HR.out,hk2,← HL.out]; exact swapped_half l
      rw [swapped_length,HL.out,HE.out] at hcv
      clear hk2
      go_wp2
      go_ret
      exact ⟨rfl,HX2.out⟩
end
section
open Go.RowKit Go.Maps
theorem Ext.old {a w : World} (h : Ext [] a w) : ∀ b o,b < a.heap.size → w.cell? ⟨b,o,none⟩ = a.cell? ⟨b,o,none⟩:=fun b o hb => World.cell?_of_block (h.block b hb (by simp))
theorem conv_one (W : World) (b : Nat) (c : UInt8) (h : W.cell? ⟨b,0,none⟩ = some (.int .u8 (c.toNat : Int))) : (convert 79 9 (.slice (some ⟨b,0,none⟩) 1 1)).run Tryz.prog W = .ok (.string ⟨[c].toArray⟩) W :=
  run_convert_bytes_back (P:=Tryz.prog) W 79 9 5 ⟨b,0,none⟩ 1 [c] Tryz.underlying79 Tryz.underlying5 Tryz.underlying9 (fun j hj => by
    obtain rfl : j = 0:=by simpa using hj
    exact h)
theorem add_str (a b : Bs) (h : a.length + b.length ≤ maxLen) (W : World) : (Op.stringOp .add ⟨a.toArray⟩ ⟨b.toArray⟩).run Tryz.prog W = .ok (.string ⟨(a ++ b).toArray⟩) W:=by
  have:=run_string_add_sum (P:=Tryz.prog) W ⟨a.toArray⟩ ⟨b.toArray⟩ h
  rw [ByteArray.mk_append_mk] at this
  exact this
theorem packNum_any (n : Nat) (w : World) (hn : n < 18446744073709551616) :
    Calls Tryz.prog 141 #[.int .u64 n] w fun e w2 => e = .returned (.string ⟨(numB n).toArray⟩) ∧ Ext [] w w2:=by
  have HN:=Lib.hid hn
  clear hn
  go_enter Tryz.func141,Tryz.ntmps141
  go_wp2_with fail
  refine (need_any n w HN.out).mono ?_
  rintro e w1 ⟨rfl,rfl⟩
  have hk8 : need n ≤ 8:=need_le n
  have hk : (need n : Int) ≤ 8:=by omega
  have HNB : Hid (numB n = UInt8.ofNat (need n) :: highB n (need n)):=rfl
  have hcv : ∀ (W : World) (b : Nat),W.cell? ⟨b,0,none⟩ = some (.int .u8 (need n : Int)) → (convert 79 9 (.slice (some ⟨b,0,none⟩) 1 1)).run Tryz.prog W = .ok (.string ⟨[UInt8.ofNat (need n)].toArray⟩) W:=fun W b h => conv_one W b _ (by rw [h]; congr 2; simp; omega)
  have hwr : IntKind.u8.wrap (need n : Int) = (need n : Int):=by rw [IntKind.wrap_u8]; omega
  have hadd:=add_str [UInt8.ofNat (need n)] (highB n (need n)) (by rw [highB_length]; simp [maxLen]; omega)
  generalize need n = k at *
  go_wp2
  go_region_with (first | (go_at_call 111; refine (high_any n k _ (by omega)).mono ?_; rintro e w2 ⟨rfl,hx⟩; have hcx:=hx.old))
  all_goals
    have HX:=Lib.hid hx
    clear hx hcx hcv hwr hadd
    go_wp2
    go_ret
    refine ⟨by rw [HNB.out]; rfl,?_⟩
    first
      | exact ((Ext.refl [] w).drew).trans HX.out (by simp)
      | exact (((Ext.refl [] w).drew).trans HX.out (by simp)).alloc _
      | exact (((Ext.refl [] w).alloc _).drew).trans HX.out (by simp)
theorem packText_any (s : Bs) (w : World) (hs : s.length ≤ 1000000000000) :
    Calls Tryz.prog 119 #[.string ⟨s.toArray⟩] w fun e w2 => e = .returned (.string ⟨(textB s).toArray⟩) ∧ Ext [] w w2:=by
  have HS:=Lib.hid hs
  have hb1 : (s.length : Int) ≤ 1000000000000:=by omega
  have hadd:=add_str (numB s.length) s (by have:=numB_length_le s.length; simp [maxLen]; omega)
  have HT : Hid (textB s = numB s.length ++ s):=rfl
  clear hs
  go_enter Tryz.func119,Tryz.ntmps119
  go_wp2_with fail
  refine (packNum_any s.length w (by have:=HS.out; omega)).mono ?_
  rintro e w1 ⟨rfl,hx⟩
  have HX:=Lib.hid hx
  clear hx
  generalize numB s.length = nb at *
  go_wp2
  go_ret
  exact ⟨by rw [HT.out]; rfl,HX.out⟩
end
section
open Go.RowKit Go.Maps
def RdAt (T : TypeId) (w : World) (b : Nat) (r : Rd) : Prop:=w.heap[b]? = some (.cells #[.string ⟨r.s.toArray⟩,.bool r.bad] T (0,0))
theorem RdAt.ext {T : TypeId} {w w2 : World} {b : Nat} {G : List Nat} {r : Rd} (h : RdAt T w b r) (hx : Ext G w w2) (hd : b ∉ G) : RdAt T w2 b r:=hx.heap h hd
theorem RdAt.lt {T : TypeId} {w : World} {b : Nat} {r : Rd} (h : RdAt T w b r) : b < w.heap.size:=heap_lt h
theorem RdAt.cells {T : TypeId} {w : World} {b : Nat} {r : Rd} (h : RdAt T w b r) : w.cell? ⟨b,0,none⟩ = some (.string ⟨r.s.toArray⟩) ∧ w.cell? ⟨b,1,none⟩ = some (.bool r.bad) ∧ w.frozen? ⟨b,0,none⟩ = false ∧ w.frozen? ⟨b,1,none⟩ = false :=
  ⟨by rw [box_cell h]; rfl,by rw [box_cell h]; rfl,box_free h,box_free h⟩
theorem RdAt.set {T : TypeId} {w : World} {b : Nat} {r : Rd} (h : RdAt T w b r) (s : Bs) : RdAt T (w.setCell ⟨b,0,none⟩ (.string ⟨s.toArray⟩)) b ⟨s,r.bad⟩:=by
  unfold RdAt; rw [heap_setCell_same h]; rfl
theorem RdAt.setBad {T : TypeId} {w : World} {b : Nat} {r : Rd} (h : RdAt T w b r) (x : Bool) : RdAt T (w.setCell ⟨b,1,none⟩ (.bool x)) b ⟨r.s,x⟩:=by
  unfold RdAt; rw [heap_setCell_same h]; rfl
theorem rdFail_any (T b : Nat) (r : Rd) (w : World) (h : RdAt T w b r) :
    Calls Tryz.prog 131 #[.pointer (some ⟨b,0,none⟩)] w fun e w2 => e = .returned (.tuple #[]) ∧ RdAt T w2 b Rd.failed ∧ Ext [b] w w2:=by
  obtain ⟨c0,c1,f0,f1⟩:=h.cells
  have H1 : Hid (RdAt T ((w.setCell ⟨b,0,none⟩ (.string ⟨#[]⟩)).setCell ⟨b,1,none⟩ (.bool true)) b Rd.failed):=(h.set []).setBad true
  have H2 : Hid (Ext [b] w ((w.setCell ⟨b,0,none⟩ (.string ⟨#[]⟩)).setCell ⟨b,1,none⟩ (.bool true))):=((Ext.refl [b] w).setCell (by simp) _).setCell (by simp) _
  clear h
  go_enter Tryz.func131,Tryz.ntmps131
  go_wp2
  go_end0
  exact ⟨rfl,H1.out,H2.out⟩
theorem rdLeft_any (T b : Nat) (r : Rd) (w : World) (h : RdAt T w b r) :
    Calls Tryz.prog 64 #[.pointer (some ⟨b,0,none⟩)] w fun e w2 => e = .returned (.int .i64 r.s.length) ∧ w = w2:=by
  obtain ⟨c0,c1,f0,f1⟩:=h.cells
  clear h
  go_enter Tryz.func64,Tryz.ntmps64
  go_wp2
  go_ret
  exact ⟨rfl,rfl⟩
theorem rdDone_any (T b : Nat) (r : Rd) (w : World) (h : RdAt T w b r) :
    Calls Tryz.prog 97 #[.pointer (some ⟨b,0,none⟩)] w fun e w2 => e = .returned (.int .i64 r.done) ∧ w = w2:=by
  obtain ⟨c0,c1,f0,f1⟩:=h.cells
  obtain ⟨s,bad⟩:=r
  clear h
  cases bad
  · cases s
    · dsimp only at c0 c1
      go_enter Tryz.func97,Tryz.ntmps97
      go_wp2
      go_ret
      exact ⟨rfl,rfl⟩
    · rename_i c t
      dsimp only at c0 c1
      have h1 : (ByteArray.mk (c :: t).toArray).toList.isEmpty = false:=by rw [ByteArray.toList_eq]; rfl
      have h2 : (!(ByteArray.mk (c :: t).toArray).toList.isEmpty) = true:=by rw [h1]; rfl
      go_enter Tryz.func97,Tryz.ntmps97
      go_wp2
      all_goals go_ret
      all_goals exact ⟨rfl,rfl⟩
  · dsimp only at c0 c1
    go_enter Tryz.func97,Tryz.ntmps97
    go_wp2
    go_ret
    exact ⟨rfl,rfl⟩
theorem cut_head (s : Bs) (n : Nat) : (ByteArray.mk s.toArray).extract 0 n = ⟨(s.take n).toArray⟩:=by
  apply ByteArray.ext
  simp [ByteArray.data_extract]
theorem cut_tail (s : Bs) (n m : Nat) (h : m = s.length) : (ByteArray.mk s.toArray).extract n m = ⟨(s.drop n).toArray⟩:=by
  subst h
  apply ByteArray.ext
  simp only [ByteArray.data_extract]
  rw [List.extract_toArray,List.extract_eq_take_drop,List.take_of_length_le (by simp)]
theorem rdTake_any (T b : Nat) (r : Rd) (n : Nat) (w : World) (h : RdAt T w b r) (hs : r.s.length ≤ 1000000000000) (_hn : n ≤ 9223372036854775807) :
    Calls Tryz.prog 129 #[.pointer (some ⟨b,0,none⟩),.int .i64 n] w fun e w2 => e = .returned (.string ⟨(r.take n).1.toArray⟩) ∧ RdAt T w2 b (r.take n).2 ∧ Ext [b] w w2:=by
  have H:=Lib.hid h
  obtain ⟨c0,c1,f0,f1⟩:=h.cells
  clear h
  have hs' : (r.s.length : Int) ≤ 1000000000000:=by omega
  by_cases hb : r.bad = true
  · have e1 : r.take n = ([],Rd.failed):=by unfold Rd.take; simp [hb]
    rw [e1]
    rw [hb] at c1
    clear hb e1
    go_enter Tryz.func129,Tryz.ntmps129
    go_wp2_with (go_at_call 131; refine (rdFail_any T b r _ H.out).mono ?_; rintro e w2 ⟨rfl,h2,hx⟩; have H2:=Lib.hid h2; have HX:=Lib.hid hx; clear h2 hx)
    go_ret
    exact ⟨rfl,H2.out,HX.out⟩
  · have hb : r.bad = false:=by simpa using hb
    rw [hb] at c1
    by_cases hl : r.s.length < n
    · have e1 : r.take n = ([],Rd.failed):=by unfold Rd.take; simp [hl]
      rw [e1]
      have hl' : (r.s.length : Int) < n:=by omega
      clear hb e1
      go_enter Tryz.func129,Tryz.ntmps129
      go_wp2_with (go_at_call 131; refine (rdFail_any T b r _ H.out).mono ?_; rintro e w2 ⟨rfl,h2,hx⟩; have H2:=Lib.hid h2; have HX:=Lib.hid hx; clear h2 hx)
      go_ret
      exact ⟨rfl,H2.out,HX.out⟩
    · have e1 : r.take n = (r.s.take n,⟨r.s.drop n,false⟩):=by unfold Rd.take; simp [hb,hl]
      have HD : Hid (RdAt T (w.setCell ⟨b,0,none⟩ (.string ⟨(r.s.drop n).toArray⟩)) b ⟨r.s.drop n,false⟩):=by have:=H.out.set (r.s.drop n); rw [hb] at this; exact this
      have HX : Hid (Ext [b] w (w.setCell ⟨b,0,none⟩ (.string ⟨(r.s.drop n).toArray⟩))):=(Ext.refl [b] w).setCell (by simp) _
      rw [e1]
      have hl' : ¬ (r.s.length : Int) < n:=by omega
      have hl'' : n ≤ r.s.length:=by omega
      clear hb e1 hl
      go_enter Tryz.func129,Tryz.ntmps129
      go_wp2
      go_ret
      rw [cut_tail _ _ _ rfl]
      exact ⟨congrArg (fun x => Ending.returned (.string x)) (cut_head r.s n),HD.out,HX.out⟩
theorem quiet_left {P : Program} {f : FuncId} {args : Array Value} {w : World} {n : Nat} {v : Value}
    (h : Calls P f args (w.drewN n) fun e w' => e = .returned v ∧ w.drewN n = w') : Calls P f args (w.drewN n) fun e w'' => e = .returned v ∧ ∃ m,w'' = w.drewN m :=
  h.mono fun _ _ ⟨he,hm⟩ => ⟨he,n,hm.symm⟩
theorem idx_one (c : UInt8) (w : World) : (Instr.index 9 (.string ⟨#[c]⟩) (.int .i64 0)).run Tryz.prog w = .ok (.int .u8 (c.toNat : Int)) w:=by
  simp [go_sem]
  rfl
theorem w64_byte (c : UInt8) : wrap64 (c.toNat : Int) = (c.toNat : Int):=by
  have:=c.toNat_lt
  unfold wrap64
  omega
theorem num_cons (c : UInt8) (t : Bs) (most : Nat) : Rd.num ⟨c :: t,false⟩ most = if c.toNat ≤ 8 ∧ c.toNat ≤ t.length ∧ need (fromH (t.take c.toNat)) = c.toNat ∧ fromH (t.take c.toNat) ≤ most then (fromH (t.take c.toNat),⟨t.drop c.toNat,false⟩) else (0,Rd.failed):=rfl
theorem rdNum_stop (T b : Nat) (r : Rd) (most : Nat) (w : World) (h : RdAt T w b r) (hs : r.s.length ≤ 1000000000000) (ht : r.take 1 = ([],Rd.failed)) :
    Calls Tryz.prog 96 #[.pointer (some ⟨b,0,none⟩),.int .u64 most] w fun e w2 => e = .returned (.int .u64 0) ∧ RdAt T w2 b Rd.failed ∧ Ext [b] w w2:=by
  have H:=Lib.hid h
  have HT:=Lib.hid ht
  clear h ht
  go_enter Tryz.func96,Tryz.ntmps96
  go_wp2_with fail
  refine (rdTake_any T b r 1 _ H.out hs (by decide)).mono ?_
  rw [HT.out]
  rintro e w1 ⟨rfl,h1,hx1⟩
  obtain ⟨c0,c1,f0,f1⟩:=h1.cells
  have H1:=Lib.hid h1
  have HX1:=Lib.hid hx1
  have c1' : w1.cell? ⟨b,1,none⟩ = some (.bool true):=c1
  clear h1 hx1 c0 c1 f0 f1
  go_wp2_with (go_at_call 131; refine (rdFail_any T b _ _ H1.out).mono ?_; rintro e w2 ⟨rfl,h2,hx⟩; have H2:=Lib.hid h2; have HX:=Lib.hid hx; clear h2 hx)
  go_ret
  exact ⟨rfl,H2.out,HX1.out.trans HX.out (by simp)⟩
theorem rdNum_wide (T b : Nat) (c : UInt8) (t : Bs) (most : Nat) (w : World) (h : RdAt T w b ⟨c :: t,false⟩) (hs : t.length + 1 ≤ 1000000000000) (hc : 8 < c.toNat) :
    Calls Tryz.prog 96 #[.pointer (some ⟨b,0,none⟩),.int .u64 most] w fun e w2 => e = .returned (.int .u64 0) ∧ RdAt T w2 b Rd.failed ∧ Ext [b] w w2:=by
  have H:=Lib.hid h
  have hc' : (8 : Int) < c.toNat:=by omega
  have hc2:=c.toNat_lt
  have hix:=idx_one c
  have hwc:=w64_byte c
  clear h
  go_enter Tryz.func96,Tryz.ntmps96
  go_wp2_with fail
  refine (rdTake_any T b ⟨c :: t,false⟩ 1 _ H.out hs (by decide)).mono ?_
  rw [show Rd.take ⟨c :: t,false⟩ 1 = ([c],⟨t,false⟩) by simp [Rd.take]]
  rintro e w1 ⟨rfl,h1,hx1⟩
  obtain ⟨c0,c1,f0,f1⟩:=h1.cells
  have H1:=Lib.hid h1
  have HX1:=Lib.hid hx1
  have c1' : w1.cell? ⟨b,1,none⟩ = some (.bool false):=c1
  clear h1 hx1 c0 c1 f0 f1
  go_wp2_with (go_at_call 131; refine (rdFail_any T b _ _ H1.out).mono ?_; rintro e w2 ⟨rfl,h2,hx⟩; have H2:=Lib.hid h2; have HX:=Lib.hid hx; clear h2 hx)
  go_ret
  exact ⟨rfl,H2.out,HX1.out.trans HX.out (by simp)⟩
theorem rdNum_short (T b : Nat) (c : UInt8) (t : Bs) (most : Nat) (w : World) (h : RdAt T w b ⟨c :: t,false⟩) (hs : t.length + 1 ≤ 1000000000000) (hc : c.toNat ≤ 8) (hl : t.length < c.toNat) :
    Calls Tryz.prog 96 #[.pointer (some ⟨b,0,none⟩),.int .u64 most] w fun e w2 => e = .returned (.int .u64 0) ∧ RdAt T w2 b Rd.failed ∧ Ext [b] w w2:=by
  have H:=Lib.hid h
  have HL:=Lib.hid hl
  have hc' : (c.toNat : Int) ≤ 8:=by omega
  have hc2:=c.toNat_lt
  have hix:=idx_one c
  have hwc:=w64_byte c
  clear h hl
  go_enter Tryz.func96,Tryz.ntmps96
  go_wp2_with fail
  refine (rdTake_any T b ⟨c :: t,false⟩ 1 _ H.out hs (by decide)).mono ?_
  rw [show Rd.take ⟨c :: t,false⟩ 1 = ([c],⟨t,false⟩) by simp [Rd.take]]
  rintro e w1 ⟨rfl,h1,hx1⟩
  obtain ⟨c0,c1,f0,f1⟩:=h1.cells
  have H1:=Lib.hid h1
  have HX1:=Lib.hid hx1
  have c1' : w1.cell? ⟨b,1,none⟩ = some (.bool false):=c1
  clear h1 hx1 c0 c1 f0 f1
  go_wp2_with fail
  refine (rdTake_any T b ⟨t,false⟩ c.toNat _ H1.out (by simp only; omega) (by omega)).mono ?_
  rw [show Rd.take ⟨t,false⟩ c.toNat = ([],Rd.failed) by simp [Rd.take,HL.out]]
  rintro e w2 ⟨rfl,h2,hx2⟩
  obtain ⟨c0,c1,f0,f1⟩:=h2.cells
  have H2:=Lib.hid h2
  have HX2:=Lib.hid hx2
  have c2' : w2.cell? ⟨b,1,none⟩ = some (.bool true):=c1
  clear h2 hx2 c0 c1 f0 f1 c1'
  go_wp2_with fail
  refine (fromHigh_any [] _ (by decide)).mono ?_
  rintro e w3 ⟨rfl,rfl⟩
  go_wp2_with fail
  go_quiet (fail)
  go_wp2_with (go_at_call 131; refine (rdFail_any T b _ _ (H2.out.ext ((Ext.refl [] w2).drewN _) (by simp))).mono ?_; rintro e w3 ⟨rfl,h3,hx⟩; have H3:=Lib.hid h3; have HX:=Lib.hid hx; clear h3 hx)
  go_ret
  exact ⟨rfl,H3.out,((HX1.out.trans HX2.out (by simp)).drewN _).trans HX.out (by simp)⟩
theorem rdNum_long (T b : Nat) (c : UInt8) (t : Bs) (most : Nat) (w : World) (h : RdAt T w b ⟨c :: t,false⟩) (hs : t.length + 1 ≤ 1000000000000) (hc : c.toNat ≤ 8) (hl : c.toNat ≤ t.length) :
    Calls Tryz.prog 96 #[.pointer (some ⟨b,0,none⟩),.int .u64 most] w fun e w2 => e = .returned (.int .u64 (Rd.num ⟨c :: t,false⟩ most).1) ∧ RdAt T w2 b (Rd.num ⟨c :: t,false⟩ most).2 ∧ Ext [b] w w2:=by
  have H:=Lib.hid h
  have HL:=Lib.hid hl
  have hc' : (c.toNat : Int) ≤ 8:=by omega
  have hix:=idx_one c
  have hwc:=w64_byte c
  have HNC:=Lib.hid (num_cons c t most)
  have HC:=Lib.hid hc
  clear h hl
  go_enter Tryz.func96,Tryz.ntmps96
  go_wp2_with fail
  refine (rdTake_any T b ⟨c :: t,false⟩ 1 _ H.out hs (by decide)).mono ?_
  rw [show Rd.take ⟨c :: t,false⟩ 1 = ([c],⟨t,false⟩) by simp [Rd.take]]
  rintro e w1 ⟨rfl,h1,hx1⟩
  obtain ⟨c0,c1,f0,f1⟩:=h1.cells
  have H1:=Lib.hid h1
  have HX1:=Lib.hid hx1
  have c1' : w1.cell? ⟨b,1,none⟩ = some (.bool false):=c1
  clear h1 hx1 c0 c1 f0 f1
  go_wp2_with fail
  refine (rdTake_any T b ⟨t,false⟩ c.toNat _ H1.out (by simp only; omega) (by omega)).mono ?_
  rw [show Rd.take ⟨t,false⟩ c.toNat = (t.take c.toNat,⟨t.drop c.toNat,false⟩) by have:=HL.out; simp [Rd.take]; intro hh; omega]
  rintro e w2 ⟨rfl,h2,hx2⟩
  obtain ⟨c0,c1,f0,f1⟩:=h2.cells
  have H2:=Lib.hid h2
  have HX2:=Lib.hid (HX1.out.trans hx2 (by simp))
  have c2' : w2.cell? ⟨b,1,none⟩ = some (.bool false):=c1
  have hf8 : (t.take c.toNat).length ≤ 8:=by rw [List.length_take]; omega
  have HF : Hid (fromH (t.take c.toNat) < 18446744073709551616):=by
    have h2:=fromH_lt _ (t.take c.toNat) rfl
    have h3 : 256 ^ (t.take c.toNat).length ≤ 256 ^ 8:=Nat.pow_le_pow_right (by omega) hf8
    unfold Hid
    omega
  have HF8:=Lib.hid hf8
  clear h2 hx2 c0 c1 f0 f1 c1' hf8
  go_wp2_with fail
  generalize t.take c.toNat = u at *
  generalize t.drop c.toNat = rest at *
  refine (fromHigh_any u _ HF8.out).mono ?_
  rintro e w3 ⟨rfl,rfl⟩
  generalize fromH u = n at *
  by_cases hne : need n = c.toNat
  · by_cases hle : n ≤ most
    · have HV : Hid (Rd.num ⟨c :: t,false⟩ most = (n,⟨rest,false⟩)):=by rw [HNC.out,if_pos ⟨HC.out,HL.out,hne,hle⟩]; trivial
      have t1 : ((need n : Int) != (c.toNat : Int)) = false:=by simp [hne]
      have t2 : decide (most < n) = false:=by simp; omega
      have HNE:=Lib.hid hne
      clear hne hle
      go_wp2_with fail
      go_quiet ((go_at_call 133; exact quiet_left (need_any n _ HF.out)))
      go_wp2
      go_ret
      rw [HV.out]
      exact ⟨rfl,H2.out.ext ((Ext.refl [] w2).drewN _) (by simp),HX2.out.drewN _⟩
    · have HV : Hid (Rd.num ⟨c :: t,false⟩ most = (0,Rd.failed)):=by rw [HNC.out,if_neg (fun h => hle h.2.2.2)]; trivial
      have t1 : ((need n : Int) != (c.toNat : Int)) = false:=by simp [hne]
      have t2 : decide (most < n) = true:=by simp; omega
      clear hne hle
      go_wp2_with fail
      go_quiet ((go_at_call 133; exact quiet_left (need_any n _ HF.out)))
      go_wp2_with (go_at_call 131; refine (rdFail_any T b _ _ (H2.out.ext ((Ext.refl [] w2).drewN _) (by simp))).mono ?_; rintro e w3 ⟨rfl,h3,hx⟩; have H3:=Lib.hid h3; have HX:=Lib.hid hx; clear h3 hx)
      go_ret
      rw [HV.out]
      exact ⟨rfl,H3.out,(HX2.out.drewN _).trans HX.out (by simp)⟩
  · have HV : Hid (Rd.num ⟨c :: t,false⟩ most = (0,Rd.failed)):=by rw [HNC.out,if_neg (fun h => hne h.2.2.1)]; trivial
    have t1 : ((need n : Int) != (c.toNat : Int)) = true:=by simp; omega
    clear hne
    go_wp2_with fail
    go_quiet ((go_at_call 133; exact quiet_left (need_any n _ HF.out)))
    go_wp2_with (go_at_call 131; refine (rdFail_any T b _ _ (H2.out.ext ((Ext.refl [] w2).drewN _) (by simp))).mono ?_; rintro e w3 ⟨rfl,h3,hx⟩; have H3:=Lib.hid h3; have HX:=Lib.hid hx; clear h3 hx)
    go_ret
    rw [HV.out]
    exact ⟨rfl,H3.out,(HX2.out.drewN _).trans HX.out (by simp)⟩
theorem rdNum_any (T b : Nat) (r : Rd) (most : Nat) (w : World) (h : RdAt T w b r) (hs : r.s.length ≤ 1000000000000) :
    Calls Tryz.prog 96 #[.pointer (some ⟨b,0,none⟩),.int .u64 most] w fun e w2 => e = .returned (.int .u64 (r.num most).1) ∧ RdAt T w2 b (r.num most).2 ∧ Ext [b] w w2:=by
  obtain ⟨s,bad⟩:=r
  cases bad
  · cases s with
    | nil => exact rdNum_stop T b _ most w h hs rfl
    | cons c t =>
      by_cases hc : c.toNat ≤ 8
      · by_cases hl : c.toNat ≤ t.length
        · exact rdNum_long T b c t most w h hs hc hl
        · rw [num_cons,if_neg (fun h => hl h.2.1)]
          exact rdNum_short T b c t most w h hs hc (by omega)
      · rw [num_cons,if_neg (fun h => hc h.1)]
        exact rdNum_wide T b c t most w h hs (by omega)
  · exact rdNum_stop T b _ most w h hs rfl
theorem rdText_any (T b : Nat) (r : Rd) (most : Nat) (w : World) (h : RdAt T w b r) (hs : r.s.length ≤ 1000000000000) (hm : most ≤ 1000000000000) :
    Calls Tryz.prog 92 #[.pointer (some ⟨b,0,none⟩),.int .i64 most] w fun e w2 => e = .returned (.string ⟨(r.text most).1.toArray⟩) ∧ RdAt T w2 b (r.text most).2 ∧ Ext [b] w w2:=by
  have H:=Lib.hid h
  have h0 : (0 : Int) ≤ most:=by omega
  have h1 : (most : Int) ≤ 1000000000000:=by omega
  clear h
  go_enter Tryz.func92,Tryz.ntmps92
  go_wp2_with fail
  refine (rdNum_any T b r most _ H.out hs).mono ?_
  rintro e w1 ⟨rfl,h1,hx1⟩
  have hle:=num_le r most
  have hlen:=num_len r most
  have HT : Hid (r.text most = (r.num most).2.take (r.num most).1):=rfl
  generalize r.num most = q at *
  obtain ⟨n,r1⟩:=q
  have H1:=Lib.hid h1
  have HX1:=Lib.hid hx1
  have hn1 : (n : Int) ≤ 1000000000000:=by simp only at hle; omega
  have HLE : Hid (n ≤ 1000000000000):=by simp only at hle; unfold Hid; omega
  have HLEN : Hid (r1.s.length ≤ 1000000000000):=by simp only at hlen; unfold Hid; omega
  clear h1 hx1 hle hlen
  dsimp only
  go_wp2_with fail
  refine (rdTake_any T b r1 n _ H1.out HLEN.out (by have:=HLE.out; omega)).mono ?_
  rintro e w2 ⟨rfl,h2,hx2⟩
  have H2:=Lib.hid h2
  have HX2:=Lib.hid hx2
  clear h2 hx2
  go_wp2
  go_ret
  rw [HT.out]
  exact ⟨rfl,H2.out,HX1.out.trans HX2.out (by simp)⟩
theorem rdTextL (T b : Nat) (r : Rd) (most : Nat) (mi : Int) (w : World) (hmi : mi = most) (h : RdAt T w b r) (hs : r.s.length ≤ 1000000000000) (hm : most ≤ 1000000000000) :
    Calls Tryz.prog 92 #[.pointer (some ⟨b,0,none⟩),.int .i64 mi] w fun e w2 => e = .returned (.string ⟨(r.text most).1.toArray⟩) ∧ RdAt T w2 b (r.text most).2 ∧ Ext [b] w w2:=by
  subst hmi
  exact rdText_any T b r most w h hs hm
theorem rdNumL (T b : Nat) (r : Rd) (most : Nat) (mi : Int) (w : World) (hmi : mi = most) (h : RdAt T w b r) (hs : r.s.length ≤ 1000000000000) :
    Calls Tryz.prog 96 #[.pointer (some ⟨b,0,none⟩),.int .u64 mi] w fun e w2 => e = .returned (.int .u64 (r.num most).1) ∧ RdAt T w2 b (r.num most).2 ∧ Ext [b] w w2:=by
  subst hmi
  exact rdNum_any T b r most w h hs
theorem from_any (s : Bs) (w : World) :
    Calls Tryz.prog 62 #[.string ⟨s.toArray⟩] w fun e w2 => e = .returned (.pointer (some ⟨w.heap.size,0,none⟩)) ∧ RdAt 151 w2 w.heap.size ⟨s,false⟩ ∧ Ext [] w w2 ∧ w2.heap.size = w.heap.size + 1:=by
  go_enter Tryz.func62,Tryz.ntmps62
  go_wp2
  go_ret
  exact ⟨rfl,heap_alloc_new _ _,(Ext.refl [] w).alloc _,by simp⟩
end
end Go.Proofs.YtangbdahnmomlaaGreatDoor
