/- The contracts of disk, pack and strings.Builder, in the words of parts. Conditions: the lengths fit. Slices of bytes that the program itself lays, and the reference's numbers in bytes (posthornref01). Conditions: the lengths fit. a real box, plainly: what is sealed is opened, whatever the blocks of the stream and the tags are, as long as they hang on their arguments alone. No program. octet: Same of the same, Xor. Conditions: the lengths fit. octet: Left of any word, FromLow. Conditions: the turn is 0 .. 31; at most eight bytes. octet: Same of any two texts. Conditions: the lengths fit. -/
import Derived.Laws.IdiomStrings
import Derived.Lib.SlBytesRow
import Derived.Test.YtangbdahnmomlaaGreatDoorBu00
import Derived.Test.YtangbdahnmomlaaGreatDoorBu01
import Derived.Test.YtangbdahnmomlaaGreatDoorBu04
import Derived.Test.YtangbdahnmomlaaGreatDoorBu06
import Derived.Test.YtangbdahnmomlaaGreatDoorBu07
import Derived.Test.YtangbdahnmomlaaGreatDoorBu08
import Derived.Test.YtangbdahnmomlaaGreatDoorBu13
set_option linter.unnecessarySimpa false
set_option linter.unusedSimpArgs false
set_option linter.unusedVariables false
set_option maxHeartbeats 2000000
set_option maxRecDepth 100000
namespace Go.Proofs.YtangbdahnmomlaaGreatDoor
section
open Go.RowKit Go.Maps
abbrev rdR (T b : Nat) (r : Rd) : Res:=boxR b #[.string ⟨r.s.toArray⟩,.bool r.bad] T
abbrev bldR (T b : Nat) (l : Bs) : Res where
  holds:=fun F w => Bld T w b F l
  keeps:=fun h hx hd => h.ext hx hd
  inside:=fun h => h.lt
abbrev diskR (p : Nat) (D : Dk) : Res where
  holds:=fun F w => Disk w p F D
  keeps:=fun h hx hd => h.ext hx hd
  inside:=fun h => h.lt
abbrev mapR {V : Type} (k : TypeId) (enc : V → Value) (b : Nat) (M : Mp V) : Res where
  holds:=fun F w => F = [b] ∧ MapOf Tryz.prog k enc w b M
  keeps:=fun h hx hd => ⟨h.1,h.2.ext hx (hd b (by simp [h.1]))⟩
  inside:=fun h x hx => by rw [h.1] at hx; simp at hx; subst hx; exact h.2.lt
section
variable {V : Type} {enc : V → Value} {t k e b : Nat} {w0 w : World} {F0 : List Nat} {L : List Res} {M : Mp V}
theorem Sp.map (S : Sp w0 F0 w (mapR k enc b M :: L)) : MapOf Tryz.prog k enc w b M:=by
  obtain ⟨F,⟨rfl,h⟩,_⟩:=S.take
  exact h
theorem Sp.mapMade (S : Sp w0 F0 w L) (k : TypeId) (enc : V → Value) : Sp w0 F0 (w.alloc (.map #[] 0)) (mapR k enc w.heap.size [] :: L) :=
  S.gain (G:=[w.heap.size]) ((Ext.refl [] w).alloc _) ⟨rfl,MapOf.made w⟩ (by simp)
theorem Sp.mapTo {M2 : Mp V} {w2 : World} (S : Sp w0 F0 w (mapR k enc b M :: L)) (h : MapOf Tryz.prog k enc w2 b M2) (hx : Ext [b] w w2) : Sp w0 F0 w2 (mapR k enc b M2 :: L):=by
  obtain ⟨F,⟨rfl,_⟩,h2⟩:=S.take
  exact h2 _ _ [b] ⟨rfl,h⟩ (Moved.of_ext hx)
theorem Sp.mapPut (S : Sp w0 F0 w (mapR k enc b M :: L)) (hk : Keyed Tryz.prog k) (ht : Tryz.prog.underlying t = some (.map k e)) (hn : M.length < maxLen) {key : Value} {x : Bs} (hx : keyOf Tryz.prog k key = some (.string x)) (v : V) :
    ∃ w2,(Instr.mapUpdate t (.map (some b)) key (enc v)).run Tryz.prog w = .ok () w2 ∧ Sp w0 F0 w2 (mapR k enc b (M.put x v) :: L) ∧ w2.heap.size = w.heap.size:=by
  obtain ⟨w2,h1,h2,h3,h4⟩:=S.map.update hk ht hn hx v
  exact ⟨w2,h1,S.mapTo h2 h3,h4⟩
end
section
variable {w0 w w2 : World} {F0 : List Nat} {L : List Res} {T b p : Nat} {l s : Bs}
variable {D D2 : Dk}
variable {r : Rd}
theorem Sp.rd (S : Sp w0 F0 w (rdR T b r :: L)) : RdAt T w b r:=S.boxed
theorem Sp.rdTo {r2 : Rd} (S : Sp w0 F0 w (rdR T b r :: L)) (h : RdAt T w2 b r2) (hx : Ext [b] w w2) : Sp w0 F0 w2 (rdR T b r2 :: L):=by
  obtain ⟨F,⟨rfl,h1⟩,h2⟩:=S.take
  exact h2 _ _ [b] ⟨rfl,h⟩ (Moved.of_ext hx)
theorem rdTextS (most : Nat) (mi : Int) (hmi : mi = most) (S : Sp w0 F0 w (rdR T b r :: L)) (hs : r.s.length ≤ 1000000000000) (hm : most ≤ 1000000000000) :
    Calls Tryz.prog 92 #[.pointer (some ⟨b,0,none⟩),.int .i64 mi] w fun e w2 => e = .returned (.string ⟨(r.text most).1.toArray⟩) ∧ Sp w0 F0 w2 (rdR T b (r.text most).2 :: L) :=
  (rdTextL T b r most mi w hmi S.rd hs hm).mono fun _ _ ⟨he,h,hx⟩ => ⟨he,S.rdTo h hx⟩
theorem rdNumS (most : Nat) (mi : Int) (hmi : mi = most) (S : Sp w0 F0 w (rdR T b r :: L)) (hs : r.s.length ≤ 1000000000000) :
    Calls Tryz.prog 96 #[.pointer (some ⟨b,0,none⟩),.int .u64 mi] w fun e w2 => e = .returned (.int .u64 (r.num most).1) ∧ Sp w0 F0 w2 (rdR T b (r.num most).2 :: L) :=
  (rdNumL T b r most mi w hmi S.rd hs).mono fun _ _ ⟨he,h,hx⟩ => ⟨he,S.rdTo h hx⟩
theorem rdDoneS (S : Sp w0 F0 w (rdR T b r :: L)) : Calls Tryz.prog 97 #[.pointer (some ⟨b,0,none⟩)] w fun e w2 => e = .returned (.int .i64 r.done) ∧ w = w2:=rdDone_any T b r w S.rd
theorem rdLeftS (S : Sp w0 F0 w (rdR T b r :: L)) : Calls Tryz.prog 64 #[.pointer (some ⟨b,0,none⟩)] w fun e w2 => e = .returned (.int .i64 r.s.length) ∧ w = w2:=rdLeft_any T b r w S.rd
theorem fromS (S : Sp w0 F0 w L) (s : Bs) : Calls Tryz.prog 62 #[.string ⟨s.toArray⟩] w fun e w2 => ∃ b,e = .returned (.pointer (some ⟨b,0,none⟩)) ∧ Sp w0 F0 w2 (rdR 151 b ⟨s,false⟩ :: L) :=
  (from_any s w).mono fun _ _ ⟨he,h,hx,_⟩ => ⟨_,he,S.gain (G:=[w.heap.size]) hx ⟨rfl,h⟩ (by simp)⟩
theorem Bld.fresh (w : World) (T : TypeId) : Bld T (w.alloc (.cells #[.pointer none,.slice none 0 0] T)) w.heap.size [w.heap.size] [] :=
  ⟨_,_,.inl rfl,heap_alloc_new _ _,World.ownsRowF_nil _ _ _ _,by simp [Value.ownBlock],by simp [Value.ownBlock]⟩
theorem Sp.bld (S : Sp w0 F0 w L) (T : TypeId) : Sp w0 F0 (w.alloc (.cells #[.pointer none,.slice none 0 0] T)) (bldR T w.heap.size [] :: L) :=
  S.gain ((Ext.refl [] w).alloc _) (Bld.fresh w T) (by simp)
theorem outTextS (S : Sp w0 F0 w (bldR 203 b l :: L)) (hl : l.length ≤ 1000000000000) (hs : s.length ≤ 1000000000000) :
    Calls Tryz.prog 118 #[.pointer (some ⟨b,0,none⟩),.string ⟨s.toArray⟩] w fun e w2 => e = .returned (.tuple #[]) ∧ Sp w0 F0 w2 (bldR 203 b (l ++ textB s) :: L):=by
  obtain ⟨F,h,hk⟩:=S.take
  exact (outText_any b F l s w h hl hs).mono fun _ _ ⟨he,F2,h2,m⟩ => ⟨he,hk _ _ F2 h2 m⟩
theorem outNumS (n : Nat) (S : Sp w0 F0 w (bldR 203 b l :: L)) (hl : l.length ≤ 1000000000000) (hn : n < 18446744073709551616) :
    Calls Tryz.prog 117 #[.pointer (some ⟨b,0,none⟩),.int .u64 n] w fun e w2 => e = .returned (.tuple #[]) ∧ Sp w0 F0 w2 (bldR 203 b (l ++ numB n) :: L):=by
  obtain ⟨F,h,hk⟩:=S.take
  exact (outNum_any b F l n w h hl hn).mono fun _ _ ⟨he,F2,h2,m⟩ => ⟨he,hk _ _ F2 h2 m⟩
theorem bldStringS (S : Sp w0 F0 w (bldR T b l :: L)) (h0 : l ≠ []) :
    Calls Tryz.prog 90 #[.pointer (some ⟨b,0,none⟩)] w fun e w2 => e = .returned (.string ⟨l.toArray⟩) ∧ Sp w0 F0 w2 L:=by
  obtain ⟨F,h,hk⟩:=S.take
  refine (bldString_any T b F l w h h0).mono fun _ w2 ⟨he,hx⟩ => ⟨he,?_⟩
  exact (hk w2 ⟨fun F _ => F = [],fun h _ _ => h,fun h x hx => by rw [h] at hx; cases hx⟩ [] rfl ⟨hx,by simp⟩).drop
theorem packTextS (S : Sp w0 F0 w L) (s : Bs) (hs : s.length ≤ 1000000000000) : Calls Tryz.prog 119 #[.string ⟨s.toArray⟩] w fun e w2 => e = .returned (.string ⟨(textB s).toArray⟩) ∧ Sp w0 F0 w2 L :=
  (packText_any s w hs).mono fun _ _ ⟨he,hx⟩ => ⟨he,S.ext0 hx⟩
theorem packNumS (S : Sp w0 F0 w L) (n : Nat) (hn : n < 18446744073709551616) : Calls Tryz.prog 141 #[.int .u64 n] w fun e w2 => e = .returned (.string ⟨(numB n).toArray⟩) ∧ Sp w0 F0 w2 L :=
  (packNum_any n w hn).mono fun _ _ ⟨he,hx⟩ => ⟨he,S.ext0 hx⟩
theorem Sp.disk (S : Sp w0 F0 w (diskR p D :: L)) : ∃ F,Disk w p F D ∧ ∀ w2 D2,DiskTo F w p w2 D2 → Sp w0 F0 w2 (diskR p D2 :: L):=by
  obtain ⟨F,h,hk⟩:=S.take
  exact ⟨F,h,fun w2 D2 ⟨F2,h2,m⟩ => hk _ _ F2 h2 m⟩
theorem newS (S : Sp w0 F0 w L) : Calls Tryz.prog 8 #[] w fun r w2 => ∃ p,r = .returned (.pointer (some ⟨p,0,none⟩)) ∧ Sp w0 F0 w2 (diskR p Dk.new :: L) :=
  (new_any w).mono fun _ _ ⟨p,_,he,h,hx,hn⟩ => ⟨p,he,S.gain hx h hn⟩
theorem syncS (S : Sp w0 F0 w (diskR p D :: L)) (hs : D.Small) : Calls Tryz.prog 46 #[.pointer (some ⟨p,0,none⟩)] w fun r w2 => r = .returned (.int .i64 D.sync.2) ∧ Sp w0 F0 w2 (diskR p D.sync.1 :: L):=by
  obtain ⟨F,h,hk⟩:=S.disk
  exact (sync_any p F D w h hs).mono fun _ _ ⟨he,h2⟩ => ⟨he,hk _ _ h2⟩
theorem appendS (n d : Bs) (S : Sp w0 F0 w (diskR p D :: L)) (hs : D.Small) (hn : n.length < 1000000000000000000) (hd : d.length < 1000000000000000000) :
    Calls Tryz.prog 78 #[.pointer (some ⟨p,0,none⟩),.string ⟨n.toArray⟩,.string ⟨d.toArray⟩] w fun r w2 => r = .returned (.int .i64 (D.append n d).2) ∧ Sp w0 F0 w2 (diskR p (D.append n d).1 :: L):=by
  obtain ⟨F,h,hk⟩:=S.disk
  exact (append_any p F D n d w h hs hn hd).mono fun _ _ ⟨he,h2⟩ => ⟨he,hk _ _ h2⟩
theorem writeS (n d : Bs) (S : Sp w0 F0 w (diskR p D :: L)) (hs : D.Small) (hn : n.length < 1000000000000000000) (hd : d.length < 1000000000000000000) :
    Calls Tryz.prog 61 #[.pointer (some ⟨p,0,none⟩),.string ⟨n.toArray⟩,.string ⟨d.toArray⟩] w fun r w2 => r = .returned (.int .i64 (D.write n d).2) ∧ Sp w0 F0 w2 (diskR p (D.write n d).1 :: L):=by
  obtain ⟨F,h,hk⟩:=S.disk
  exact (write_any p F D n d w h hs hn hd).mono fun _ _ ⟨he,h2⟩ => ⟨he,hk _ _ h2⟩
theorem readS (n : Bs) (S : Sp w0 F0 w (diskR p D :: L)) (hn : n.length ≤ maxLen) :
    Calls Tryz.prog 59 #[.pointer (some ⟨p,0,none⟩),.string ⟨n.toArray⟩] w fun r w2 => r = .returned (.tuple #[.string ⟨((D.now.get n).getD []).toArray⟩,.int .i64 (if D.now.has n then 0 else 10)]) ∧ w = w2:=by
  obtain ⟨F,h,hk⟩:=S.disk
  exact read_any p F D n w h hn
theorem traceS (S : Sp w0 F0 w (diskR p D :: L)) (hl : D.trace.length < 1000000000000) : Calls Tryz.prog 29 #[.pointer (some ⟨p,0,none⟩)] w fun r w2 => ∃ a c,r = .returned (.slice a D.trace.length c) ∧ Sp w0 F0 w2 (diskR p D :: L):=by
  obtain ⟨F,h,hk⟩:=S.disk
  refine (trace_any p F D w h hl).mono fun _ _ ⟨v2,he,hv,hx,_⟩ => ?_
  rcases hv.2 with ⟨rfl,h0⟩ | ⟨g,cap,cur,rfl,_⟩
  · exact ⟨none,0,by rw [he,h0],S.ext0 hx⟩
  · exact ⟨_,_,he,S.ext0 hx⟩
theorem removeS (n : Bs) (S : Sp w0 F0 w (diskR p D :: L)) (hs : D.Small) (hn : n.length < 1000000000000000000) :
    Calls Tryz.prog 50 #[.pointer (some ⟨p,0,none⟩),.string ⟨n.toArray⟩] w fun r w2 => r = .returned (.int .i64 (D.remove n).2) ∧ Sp w0 F0 w2 (diskR p (D.remove n).1 :: L):=by
  obtain ⟨F,h,hk⟩:=S.disk
  exact (remove_any p F D n w h hs hn).mono fun _ _ ⟨he,h2⟩ => ⟨he,hk _ _ h2⟩
theorem renameS (n t : Bs) (S : Sp w0 F0 w (diskR p D :: L)) (hs : D.Small) (hn : n.length < 1000000000000000000) (ht : t.length < 1000000000000000000) :
    Calls Tryz.prog 98 #[.pointer (some ⟨p,0,none⟩),.string ⟨n.toArray⟩,.string ⟨t.toArray⟩] w fun r w2 => r = .returned (.int .i64 (D.rename n t).2) ∧ Sp w0 F0 w2 (diskR p (D.rename n t).1 :: L):=by
  obtain ⟨F,h,hk⟩:=S.disk
  exact (rename_any p F D n t w h hs hn ht).mono fun _ _ ⟨he,h2⟩ => ⟨he,hk _ _ h2⟩
end
end
section
open Go.RowKit Go.Maps Go.Sort
theorem idx_str (s : Bs) (i : Nat) (h : i < s.length) (z : Int) (hz : z = i) (w : World) : (Instr.index 9 (.string ⟨s.toArray⟩) (.int .i64 z)).run Tryz.prog w = .ok (.int .u8 (s[i].toNat : Int)) w:=by
  subst hz
  simp [go_sem]
  rw [dif_pos h]
  rfl
end
section
def xorB (a b : Bs) : Bs:=List.zipWith (fun x y => x ^^^ y) a b
theorem xorB_length (a b : Bs) (h : a.length ≤ b.length) : (xorB a b).length = a.length:=by simp [xorB]; omega
theorem xorB_twice : ∀ (a b : Bs),a.length ≤ b.length → xorB (xorB a b) b = a
  | [],_,_ => by simp [xorB]
  | x :: a,[],h => by simp at h
  | x :: a,y :: b,h => by
    have ih:=xorB_twice a b (by simpa using h)
    unfold xorB at *
    rw [List.zipWith_cons_cons,List.zipWith_cons_cons,ih,UInt8.xor_assoc,UInt8.xor_self,UInt8.xor_zero]
structure Cipher where
  blk : Bs → Nat → Bs → Bs
  tag : Bs → Bs → Bs
  blen : ∀ k n z,(blk k n z).length = 64
  tlen : ∀ k t,(tag k t).length = 16
def Cipher.blocks (c : Cipher) (key nonce : Bs) : Nat → Nat → Bs
  | 0,_ => []
  | m + 1,n => c.blk key (n % 4294967296) nonce ++ c.blocks key nonce m (n + 1)
theorem Cipher.blocks_length (c : Cipher) (key nonce : Bs) : ∀ (m n : Nat),(c.blocks key nonce m n).length = 64 * m
  | 0,_ => rfl
  | m + 1,n => by
    rw [blocks,List.length_append,c.blen,c.blocks_length key nonce m]
    omega
def Cipher.stream (c : Cipher) (key nonce : Bs) (n : Nat) : Bs:=(c.blocks key nonce ((n + 63) / 64) 1).take n
theorem Cipher.stream_length (c : Cipher) (key nonce : Bs) (n : Nat) : (c.stream key nonce n).length = n:=by
  unfold Cipher.stream
  rw [List.length_take,c.blocks_length]
  omega
def fill16 (s : Bs) : Bs:=if s.length % 16 = 0 then s else s ++ List.replicate (16 - s.length % 16) 0
def low8 : Nat → Nat → Bs
  | 0,_ => []
  | k + 1,n => UInt8.ofNat (n % 256) :: low8 k (n / 256)
def covered (data sealed_ : Bs) : Bs:=fill16 data ++ fill16 sealed_ ++ low8 8 data.length ++ low8 8 sealed_.length
def Cipher.tagOf (c : Cipher) (key nonce data sealed_ : Bs) : Bs:=c.tag ((c.blk key 0 nonce).take 32) (covered data sealed_)
def Cipher.shut (c : Cipher) (key nonce data text : Bs) : Bs:=xorB text (c.stream key nonce text.length) ++ c.tagOf key nonce data (xorB text (c.stream key nonce text.length))
def Cipher.open (c : Cipher) (key nonce data s : Bs) : Option Bs :=
  if c.tagOf key nonce data (s.take (s.length - 16)) = s.drop (s.length - 16) then some (xorB (s.take (s.length - 16)) (c.stream key nonce (s.length - 16))) else none
theorem Cipher.shut_length (c : Cipher) (key nonce data text : Bs) : (c.shut key nonce data text).length = text.length + 16:=by
  unfold Cipher.shut Cipher.tagOf
  rw [List.length_append,c.tlen,xorB_length _ _ (by rw [c.stream_length]; exact Nat.le_refl _)]
theorem Cipher.open_shut (c : Cipher) (key nonce data text : Bs) : c.open key nonce data (c.shut key nonce data text) = some text:=by
  have hx : (xorB text (c.stream key nonce text.length)).length = text.length:=xorB_length _ _ (by rw [c.stream_length]; exact Nat.le_refl _)
  unfold Cipher.open
  rw [c.shut_length,Nat.add_sub_cancel]
  have h1 : (c.shut key nonce data text).take text.length = xorB text (c.stream key nonce text.length):=by
    unfold Cipher.shut
    rw [List.take_append_of_le_length (by omega),List.take_of_length_le (by omega)]
  have h2 : (c.shut key nonce data text).drop text.length = c.tagOf key nonce data (xorB text (c.stream key nonce text.length)):=by
    unfold Cipher.shut
    rw [List.drop_append_of_le_length (by omega),List.drop_of_length_le (by omega),List.nil_append]
  rw [h1,h2,if_pos rfl,xorB_twice _ _ (by rw [c.stream_length]; exact Nat.le_refl _)]
end
section
open Go.RowKit
section
variable {w0 w : World} {F0 : List Nat} {L : List Res} {v : Value}
theorem xor_self8 (c : UInt8) : bits .xor .u8 (c.toNat : Int) (c.toNat : Int) = 0:=by
  unfold bits
  simp [IntKind.wrap,IntKind.signed]
theorem or_zero8 : bits .or .u8 0 0 = 0:=by decide
theorem octSame_eq (s : Bs) (w : World) (hs : s.length ≤ 1000000000) : Calls Tryz.prog 196 #[.string ⟨s.toArray⟩,.string ⟨s.toArray⟩] w fun e w2 => e = .returned (.bool true) ∧ ∃ q,w2 = w.drewN q:=by
  have hs' : (s.length : Int) ≤ 1000000000:=by omega
  go_enter Tryz.func196,Tryz.ntmps196
  go_wp2_with fail
  go_loopw [5,14] (fun u i wr => ∃ k q : Nat,u = .int .u8 0 ∧ i = .int .i64 k ∧ k ≤ s.length ∧ wr = w.drewN q) (fun _ i _ => s.length - (intOf i).toNat)
  case atStart => exact ⟨0,0,rfl,rfl,Nat.zero_le _,rfl⟩
  case round =>
    obtain ⟨k,q,rfl,rfl,hk,rfl⟩:=hrel
    by_cases hlt : k < s.length
    · have hlt' : (k : Int) < s.length:=by omega
      have hix:=fun w' => idx_str s k hlt (k : Int) rfl w'
      have hx:=xor_self8 s[k]
      have ho:=or_zero8
      generalize s[k] = c at *
      go_wp2_with fail
      go_region
      all_goals
        go_wp2_with fail
        go_roundw
        case rel => exact ⟨k + 1,q + 1,by simp [hx,ho],by go_num,by omega,rfl⟩
        case measure => simp [intOf]; omega
    · go_wp2
      go_ret
      exact ⟨rfl,q,rfl⟩
abbrev convY (b : Nat) (l : Bs) : Res where
  holds:=fun F w => F = [b] ∧ ∃ (C : Array Value) (m : Nat),w.heap[b]? = some (.cells C 5 (C.size,m)) ∧ l.length ≤ C.size ∧ ∀ i,(h : i < l.length) → C[i]? = some (bv l[i])
  keeps:=fun ⟨h1,C,m,h2,h3⟩ hx hd => ⟨h1,C,m,hx.heap h2 (hd b (by simp [h1])),h3⟩
  inside:=fun h x hx => by
    obtain ⟨h1,C,m,h2,_⟩:=h
    rw [h1] at hx
    simp at hx
    subst hx
    exact heap_lt h2
theorem Sp.convNewY (S : Sp w0 F0 w L) (l : Bs) (c : Nat) : Sp w0 F0 (w.drew.alloc (.cells (bytesRow ⟨l.toArray⟩ c) 5 ((bytesRow ⟨l.toArray⟩ c).size,(bytesRow ⟨l.toArray⟩ c).size + 1))) (convY w.heap.size l :: L):=by
  refine S.gain (G:=[w.heap.size]) (((Ext.refl [] w).drew).alloc _) ⟨rfl,bytesRow ⟨l.toArray⟩ c,_,(MapKept.heap_alloc w.drew _).1,?_,fun i h => ?_⟩ (by simp)
  · unfold bytesRow
    simp
  · unfold bytesRow
    rw [Array.getElem?_append_left (by simpa using h)]
    simp [h]
theorem Sp.convYCell {b : Nat} {l : Bs} (S : Sp w0 F0 w (convY b l :: L)) {i : Nat} (h : i < l.length) : w.cell? ⟨b,i,none⟩ = some (bv l[i]):=by
  obtain ⟨F,⟨rfl,C,m,h2,h3,h4⟩,_⟩:=S.take
  have:=h4 i h
  simp [World.cell?,h2,this]
theorem Sp.convYFree {b : Nat} {l : Bs} (S : Sp w0 F0 w (convY b l :: L)) {i : Nat} (h : i < l.length) : w.frozen? ⟨b,i,none⟩ = false:=by
  obtain ⟨F,⟨rfl,C,m,h2,h3,h4⟩,_⟩:=S.take
  simp [World.frozen?,h2]
  omega
theorem Sp.convYSet {b : Nat} {l : Bs} (S : Sp w0 F0 w (convY b l :: L)) {i : Nat} (h : i < l.length) (c : UInt8) : Sp w0 F0 (w.setCell ⟨b,i,none⟩ (bv c)) (convY b (l.set i c) :: L):=by
  obtain ⟨F,⟨rfl,C,m,h2,h3,h4⟩,h5⟩:=S.take
  refine h5 _ _ [b] ⟨rfl,C.setIfInBounds i (bv c),m,?_,by simpa using h3,fun j hj => ?_⟩ (Moved.of_ext ((Ext.refl _ w).setCell (by simp) _))
  · have:=setCell_heap (o:=i) h2 (bv c)
    simpa using this
  · have hj' : j < l.length:=by simpa using hj
    rw [List.getElem_set,Array.getElem?_setIfInBounds]
    by_cases e : i = j
    · subst e
      rw [if_pos rfl,if_pos rfl,if_pos (by omega)]
    · rw [if_neg e,if_neg e]
      exact h4 j hj'
def xorTo (a b : Bs) (k : Nat) : Bs:=(List.range a.length).map fun i => if i < k then a.getD i 0 ^^^ b.getD i 0 else a.getD i 0
theorem xorTo_length (a b : Bs) (k : Nat) : (xorTo a b k).length = a.length:=by simp [xorTo]
theorem xorTo_zero (a b : Bs) : xorTo a b 0 = a:=by
  apply List.ext_getElem (by simp [xorTo])
  intro i h1 h2
  simp [xorTo,List.getD_eq_getElem?_getD,List.getElem?_eq_getElem h2]
theorem xorTo_step (a b : Bs) (k : Nat) (h : k < a.length) (h2 : k < b.length) : (xorTo a b k).set k (a[k] ^^^ b[k]) = xorTo a b (k + 1):=by
  apply List.ext_getElem (by simp [xorTo])
  intro i h3 h4
  rw [List.getElem_set]
  by_cases e : k = i
  · subst e
    rw [if_pos rfl]
    simp [xorTo,List.getD_eq_getElem?_getD,List.getElem?_eq_getElem h,List.getElem?_eq_getElem h2]
  · rw [if_neg e]
    simp only [xorTo,List.getElem_map,List.getElem_range]
    by_cases e2 : i < k
    · rw [if_pos e2,if_pos (by omega)]
    · rw [if_neg e2,if_neg (by omega)]
theorem xorTo_get (a b : Bs) (k : Nat) (h : k < a.length) : (xorTo a b k)[k]'(by rw [xorTo_length]; exact h) = a[k]:=by
  simp [xorTo,List.getD_eq_getElem?_getD,List.getElem?_eq_getElem h]
theorem xorTo_all (a b : Bs) (h : a.length = b.length) : xorTo a b a.length = xorB a b:=by
  apply List.ext_getElem (by simp [xorTo,xorB,h])
  intro i h1 h2
  have ha : i < a.length:=by simpa [xorTo] using h1
  have hb : i < b.length:=by omega
  simp [xorTo,xorB,List.getD_eq_getElem?_getD,List.getElem?_eq_getElem ha,List.getElem?_eq_getElem hb,ha]
theorem xor_8 (c d : UInt8) : bits .xor .u8 (c.toNat : Int) (d.toNat : Int) = ((c ^^^ d).toNat : Int):=by
  have hc:=c.toNat_lt
  have hd:=d.toNat_lt
  have hx : c.toNat ^^^ d.toNat < 2 ^ 8:=Nat.xor_lt_two_pow hc hd
  rw [UInt8.toNat_xor]
  unfold bits
  simp [IntKind.wrap,IntKind.signed,IntKind.bits]
  show ((c.toNat ^^^ d.toNat : Nat) : Int) % 256 = ((c.toNat ^^^ d.toNat : Nat) : Int)
  omega
theorem octXorS (a b : Bs) (h : a.length = b.length) (hs : a.length ≤ 1000000000) (S : Sp w0 F0 w L) : Calls Tryz.prog 224 #[.string ⟨a.toArray⟩,.string ⟨b.toArray⟩] w fun e w2 => e = .returned (.tuple #[.string ⟨(xorB a b).toArray⟩,.int .i64 0]) ∧ Sp w0 F0 w2 L:=by
  have hs' : (a.length : Int) ≤ 1000000000:=by omega
  have hcv:=run_bytes_of_string (P:=Tryz.prog) w 9 79 5 ⟨a.toArray⟩ Tryz.underlying9 Tryz.underlying79 Tryz.underlying5
  have HS0 : Hid (Sp w0 F0 (w.alloc (.cells (bytesRow ⟨a.toArray⟩ (grownCap w b.length 0 5)) 5 ((bytesRow ⟨a.toArray⟩ (grownCap w b.length 0 5)).size,(bytesRow ⟨a.toArray⟩ (grownCap w b.length 0 5)).size + 1))).drew (convY w.heap.size a :: L)):=S.convNewY a (grownCap w b.length 0 5)
  have hne : ((a.length : Int) != b.length) = false:=by simp [h]
  have HX0:=Lib.hid (xorTo_zero a b)
  clear S
  go_enter Tryz.func224,Tryz.ntmps224
  go_wp2_with fail
  generalize (w.alloc _).drew = w1 at *
  generalize w.heap.size = g at *
  generalize grownCap w b.length 0 5 = cap at *
  have HLA:=Lib.hid h
  clear hcv h hne hs
  have hb' : (b.length : Int) ≤ 1000000000:=by have:=HLA.out; omega
  clear hs'
  go_loopw [17] (fun i wr => ∃ k : Nat,i = .int .i64 k ∧ k ≤ b.length ∧ Sp w0 F0 wr (convY g (xorTo a b k) :: L)) (fun i _ => b.length - (intOf i).toNat)
  case atStart => exact ⟨0,rfl,Nat.zero_le _,by rw [HX0.out]; exact HS0.out⟩
  case round =>
    clear HS0 HX0
    obtain ⟨k,rfl,hk,S⟩:=hrel
    have HS:=Lib.hid S
    clear S
    by_cases hlt : k < b.length
    · have hlt' : (k : Int) < b.length:=by omega
      have hka : k < a.length:=by have:=HLA.out; omega
      have hkx : k < (xorTo a b k).length:=by rw [xorTo_length]; exact hka
      have ck:=HS.out.convYCell hkx
      rw [xorTo_get a b k hka] at ck
      have fk:=HS.out.convYFree hkx
      have hix:=fun w' => idx_str b k hlt (k : Int) rfl w'
      have hx:=xor_8 a[k] b[k]
      have HST:=Lib.hid (xorTo_step a b k hka hlt)
      have HN:=Lib.hid (HS.out.drew.convYSet hkx (a[k] ^^^ b[k]))
      rw [HST.out] at HN
      clear HST hkx
      generalize a[k] = c at *
      generalize b[k] = d at *
      unfold bv at ck HN
      rw [← hx] at HN
      clear hx
      go_wp2_with fail
      go_region
      all_goals
        go_wp2_with fail
        go_roundw
        case rel => exact ⟨k + 1,by go_num,by omega,by exact HN.out⟩
        case measure => simp [intOf]; omega
    · obtain rfl : k = b.length:=by omega
      have HXA:=Lib.hid (xorTo_all a b HLA.out)
      rw [HLA.out] at HXA
      rw [HXA.out] at HS
      have hbl : (xorB a b).length = b.length:=by rw [xorB_length _ _ (by rw [HLA.out]; exact Nat.le_refl _),HLA.out]
      have hcv:=Lib.run_convert_whole (P:=Tryz.prog) wr 79 5 9 Tryz.underlying79 Tryz.underlying5 Tryz.underlying9 g 0 ⟨(xorB a b).toArray⟩ (fun i hi => by
        have hi' : i < (xorB a b).length:=hi
        rw [Nat.zero_add]
        exact HS.out.convYCell hi') cap
      have hz : (⟨(xorB a b).toArray⟩ : ByteArray).size = b.length:=by rw [← hbl]; rfl
      rw [hz] at hcv
      have HD:=Lib.hid HS.out.drop
      clear HS hz hbl HXA
      go_wp2
      go_ret2
      exact ⟨rfl,HD.out⟩
end
end
section
open Go.RowKit
section
variable {w0 w : World} {F0 : List Nat} {L : List Res} {v : Value}
def rotW (x n : Nat) : Nat:=(x * 2 ^ (n % 32) % 4294967296) ||| (x / 2 ^ (32 - n % 32))
theorem rotW_lt (x n : Nat) (hx : x < 4294967296) : rotW x n < 4294967296:=by
  unfold rotW
  exact Nat.or_lt_two_pow (n:=32) (Nat.mod_lt _ (by decide)) (Nat.lt_of_le_of_lt (Nat.div_le_self _ _) hx)
theorem or_32 (a b : Nat) (ha : a < 4294967296) (hb : b < 4294967296) : bits .or .u32 (a : Int) (b : Int) = ((a ||| b : Nat) : Int):=by
  have hx : a ||| b < 2 ^ 32:=Nat.or_lt_two_pow ha hb
  unfold bits
  simp [IntKind.wrap,IntKind.signed,IntKind.bits]
  have e : (BitVec.ofNat 32 a ||| BitVec.ofNat 32 b).toNat = a ||| b:=by
    rw [BitVec.toNat_or,BitVec.toNat_ofNat,BitVec.toNat_ofNat,Nat.mod_eq_of_lt ha,Nat.mod_eq_of_lt hb]
  have e2 : ((BitVec.ofNat 32 a ||| BitVec.ofNat 32 b).toNat : Int) = ((a ||| b : Nat) : Int):=by rw [e]
  show ((BitVec.ofNat 32 a ||| BitVec.ofNat 32 b).toNat : Int) % 4294967296 = ((a ||| b : Nat) : Int)
  rw [e2]
  omega
theorem rotW_bits (x n : Nat) (hx : x < 4294967296) : bits .or .u32 ((x : Int) * 2 ^ (n % 32) % 4294967296) ((x : Int) / 2 ^ (32 - n % 32)) = (rotW x n : Int):=by
  have h:=or_32 (x * 2 ^ (n % 32) % 4294967296) (x / 2 ^ (32 - n % 32)) (Nat.mod_lt _ (by decide)) (Nat.lt_of_le_of_lt (Nat.div_le_self _ _) hx)
  rw [rotW,← h]
  congr 1 <;> push_cast <;> rfl
theorem octLeft (x n : Nat) (hx : x < 4294967296) (hn : n < 32) (w : World) : Calls Tryz.prog 268 #[.int .u32 x,.int .i64 n] w fun e w2 => e = .returned (.int .u32 (rotW x n)) ∧ w2 = w:=by
  have hb:=rotW_bits x n hx
  go_enter Tryz.func268,Tryz.ntmps268
  go_wp2_with fail
  go_ret
  exact ⟨rfl,rfl⟩
end
end
section
open Go.RowKit
end
end Go.Proofs.YtangbdahnmomlaaGreatDoor
