/- strings.Builder as a part of memory: WriteString, Len, String (of a fresh one too). Conditions: the lengths fit. chacha: four numbers stirred, plainly (the adds, the xors and the turns as numbers below 2^32). Conditions: the numbers are below 2^32. chacha: Stir. Conditions: the numbers are below 2^32. chacha: a block, plainly: sixteen numbers below 2^32, stirred at their places. No condition. chacha: places, begin, may. Conditions: the lengths fit. sha, mac and the keys of domains and epochs, plainly; how they are reckoned. No program. sha: Right, First, table, schedule, Mix. Conditions: a block of 64 bytes. -/
import Derived.BigQuiet
import Derived.Deep.DeepCutAuto
import Derived.Deep.QuietTactic
import Derived.Test.YtangbdahnmomlaaGreatDoorBu01
import Derived.Test.YtangbdahnmomlaaGreatDoorBu04
import Derived.Test.YtangbdahnmomlaaGreatDoorBu06
import Derived.Test.YtangbdahnmomlaaGreatDoorBu07
import Derived.Test.YtangbdahnmomlaaGreatDoorBu08
import Derived.Test.YtangbdahnmomlaaGreatDoorBu14
set_option linter.unnecessarySimpa false
set_option linter.unusedSimpArgs false
set_option linter.unusedVariables false
set_option maxHeartbeats 4000000
set_option maxRecDepth 100000
namespace Go.Proofs.YtangbdahnmomlaaGreatDoor
section
open Go.RowKit Go.Maps
abbrev bldX (T b : Nat) (l : Bs) : Res where
  holds:=fun F w => Bld T w b F l
  keeps:=fun h hx hd => h.ext hx hd
  inside:=fun h => h.lt
section
variable {w0 w : World} {F0 : List Nat} {L : List Res} {T b : Nat} {l s : Bs}
theorem Bld.freshX (w : World) (T : TypeId) : Bld T (w.alloc (.cells #[.pointer none,.slice none 0 0] T)) w.heap.size [w.heap.size] [] :=
  ⟨_,_,.inl rfl,heap_alloc_new _ _,World.ownsRowF_nil _ _ _ _,by simp [Value.ownBlock],by simp [Value.ownBlock]⟩
theorem Sp.bldNewX (S : Sp w0 F0 w L) (T : TypeId) : Sp w0 F0 (w.alloc (.cells #[.pointer none,.slice none 0 0] T)) (bldX T w.heap.size [] :: L) :=
  S.gain ((Ext.refl [] w).alloc _) (Bld.freshX w T) (by simp)
theorem writeStrX (s : Bs) (S : Sp w0 F0 w (bldX 176 b l :: L)) (hl : l.length + s.length ≤ 1000000000000) :
    Calls Tryz.prog 89 #[.pointer (some ⟨b,0,none⟩),.string ⟨s.toArray⟩] w fun e w2 => e = .returned (.tuple #[.int .i64 s.length,.nilIface]) ∧ Sp w0 F0 w2 (bldX 176 b (l ++ s) :: L):=by
  obtain ⟨F,h,hk⟩:=S.take
  exact (writeStr_any 176 b F l s w isOutBld h (by omega)).mono fun _ _ ⟨he,F2,h2,m⟩ => ⟨he,hk _ _ F2 h2 m⟩
theorem stringX (S : Sp w0 F0 w (bldX T b l :: L)) (h0 : l ≠ []) :
    Calls Tryz.prog 90 #[.pointer (some ⟨b,0,none⟩)] w fun e w2 => e = .returned (.string ⟨l.toArray⟩) ∧ Sp w0 F0 w2 L:=by
  obtain ⟨F,h,hk⟩:=S.take
  refine (bldString_any T b F l w h h0).mono fun _ w2 ⟨he,hx⟩ => ⟨he,?_⟩
  exact (hk w2 ⟨fun F _ => F = [],fun h _ _ => h,fun h x hx => by rw [h] at hx; cases hx⟩ [] rfl ⟨hx,by simp⟩).drop
theorem lenX (S : Sp w0 F0 w (bldX T b l :: L)) :
    Calls Tryz.prog 192 #[.pointer (some ⟨b,0,none⟩)] w fun e w2 => e = .returned (.int .i64 l.length) ∧ Sp w0 F0 w2 (bldX T b l :: L):=by
  have HS:=Lib.hid S
  obtain ⟨F,⟨p,v,hp,hb,hr,hn,rfl⟩,hk⟩:=S.take
  have c1 : w.cell? ⟨b,1,none⟩ = some v:=by rw [box_cell hb]; rfl
  obtain ⟨a,cap,rfl⟩ : ∃ a cap,v = .slice a l.length cap:=by
    rcases hr.2 with ⟨rfl,hz⟩ | ⟨g,cap,cur,fz,rfl,r⟩
    · exact ⟨none,0,by rw [hz]⟩
    · exact ⟨_,_,rfl⟩
  clear hp hb hr hn hk S
  go_enter Tryz.func192,Tryz.ntmps192
  go_wp2
  go_ret
  exact ⟨rfl,HS.out⟩
end
end
section
open Go.RowKit
section
variable {w0 w : World} {F0 : List Nat} {L : List Res} {v : Value}
def add32 (a b : Nat) : Nat:=(a + b) % 4294967296
theorem add32_lt (a b : Nat) : add32 a b < 4294967296:=Nat.mod_lt _ (by decide)
theorem add_32 (a b : Nat) : ((a : Int) + (b : Int)) % 4294967296 = (add32 a b : Int):=by
  unfold add32
  omega
theorem xor32_lt (a b : Nat) (ha : a < 4294967296) (hb : b < 4294967296) : a ^^^ b < 4294967296:=Nat.xor_lt_two_pow (n:=32) ha hb
theorem xor_32 (a b : Nat) (ha : a < 4294967296) (hb : b < 4294967296) : bits .xor .u32 (a : Int) (b : Int) = ((a ^^^ b : Nat) : Int):=by
  have hx : a ^^^ b < 2 ^ 32:=Nat.xor_lt_two_pow ha hb
  unfold bits
  simp [IntKind.wrap,IntKind.signed,IntKind.bits]
  have e : (BitVec.ofNat 32 a ^^^ BitVec.ofNat 32 b).toNat = a ^^^ b:=by
    rw [BitVec.toNat_xor,BitVec.toNat_ofNat,BitVec.toNat_ofNat,Nat.mod_eq_of_lt ha,Nat.mod_eq_of_lt hb]
  have e2 : ((BitVec.ofNat 32 a ^^^ BitVec.ofNat 32 b).toNat : Int) = ((a ^^^ b : Nat) : Int):=by rw [e]
  show ((BitVec.ofNat 32 a ^^^ BitVec.ofNat 32 b).toNat : Int) % 4294967296 = ((a ^^^ b : Nat) : Int)
  rw [e2]
  omega
structure W4 where
  a : Nat
  b : Nat
  c : Nat
  d : Nat
end
end
section
open Go.RowKit
end
section
open Go.RowKit
def row32 (l : List Nat) : Array Value:=(l.map fun n : Nat => Value.int .u32 n).toArray
theorem row32_get (l : List Nat) (i : Nat) (h : i < l.length) : (row32 l)[i]? = some (.int .u32 (l.getD i 0)):=by
  simp [row32,List.getD_eq_getElem?_getD,List.getElem?_eq_getElem h]
theorem row32_set (l : List Nat) (i x : Nat) : (row32 l).setIfInBounds i (.int .u32 x) = row32 (l.set i x):=by
  simp [row32,List.map_set]
def q4 (l p : List Nat) : W4:=⟨l.getD (p.getD 0 0) 0,l.getD (p.getD 1 0) 0,l.getD (p.getD 2 0) 0,l.getD (p.getD 3 0) 0⟩
end
section
open Go.RowKit
section
variable {w0 w : World} {F0 : List Nat} {L : List Res} {v : Value}
theorem Sp.at32 {b : Nat} {l : List Nat} {T : TypeId} (S : Sp w0 F0 w (boxR b (row32 l) T :: L)) {i : Nat} (h : i < l.length) : w.cell? ⟨b,i,none⟩ = some (.int .u32 (l.getD i 0)):=by
  rw [S.cell,row32_get l i h]
theorem Sp.put32 {b : Nat} {l : List Nat} {T : TypeId} (S : Sp w0 F0 w (boxR b (row32 l) T :: L)) (i x : Nat) (l2 : List Nat) (he : l.set i x = l2) : Sp w0 F0 (w.setCell ⟨b,i,none⟩ (.int .u32 x)) (boxR b (row32 l2) T :: L):=by
  have h:=S.set (o:=i) (.int .u32 x)
  rw [row32_set,he] at h
  exact h
theorem row32_size (l : List Nat) : (row32 l).size = l.length:=by simp [row32]
theorem row32_one (l : List Nat) : (row32 l).all (·.oneCell') = true:=by
  rw [Array.all_eq_true_iff_forall_mem]
  intro x hx
  simp only [row32,List.mem_toArray,List.mem_map] at hx
  obtain ⟨n,_,rfl⟩:=hx
  rfl
theorem cut_mid (s : Bs) (a b : Nat) : (ByteArray.mk s.toArray).extract a b = ⟨((s.take b).drop a).toArray⟩:=by
  apply ByteArray.ext
  simp [ByteArray.data_extract,List.drop_take]
theorem low32 (n : Nat) : ((n : Int) % 4294967296) = ((n % 4294967296 : Nat) : Int):=by omega
theorem lowWord (n : Nat) : IntKind.u32.wrap (n : Int) = ((n % 4294967296 : Nat) : Int):=by rw [IntKind.wrap_u32]; omega
end
end
section
def shS0 (x : Nat) : Nat:=rotW x 25 ^^^ rotW x 14 ^^^ (x / 8)
def shS1 (x : Nat) : Nat:=rotW x 15 ^^^ rotW x 13 ^^^ (x / 1024)
def shE1 (x : Nat) : Nat:=rotW x 26 ^^^ rotW x 21 ^^^ rotW x 7
def shE0 (x : Nat) : Nat:=rotW x 30 ^^^ rotW x 19 ^^^ rotW x 10
def shCh (e f g : Nat) : Nat:=(e &&& f) ^^^ ((4294967295 - e) &&& g)
def shMaj (a b c : Nat) : Nat:=(a &&& b) ^^^ (a &&& c) ^^^ (b &&& c)
def shK : List Nat:=[
  0x428a2f98,0x71374491,0xb5c0fbcf,0xe9b5dba5,0x3956c25b,0x59f111f1,0x923f82a4,0xab1c5ed5,
  0xd807aa98,0x12835b01,0x243185be,0x550c7dc3,0x72be5d74,0x80deb1fe,0x9bdc06a7,0xc19bf174,
  0xe49b69c1,0xefbe4786,0x0fc19dc6,0x240ca1cc,0x2de92c6f,0x4a7484aa,0x5cb0a9dc,0x76f988da,
  0x983e5152,0xa831c66d,0xb00327c8,0xbf597fc7,0xc6e00bf3,0xd5a79147,0x06ca6351,0x14292967,
  0x27b70a85,0x2e1b2138,0x4d2c6dfc,0x53380d13,0x650a7354,0x766a0abb,0x81c2c92e,0x92722c85,
  0xa2bfe8a1,0xa81a664b,0xc24b8b70,0xc76c51a3,0xd192e819,0xd6990624,0xf40e3585,0x106aa070,
  0x19a4c116,0x1e376c08,0x2748774c,0x34b0bcb5,0x391c0cb3,0x4ed8aa4a,0x5b9cca4f,0x682e6ff3,
  0x748f82ee,0x78a5636f,0x84c87814,0x8cc70208,0x90befffa,0xa4506ceb,0xbef9a3f7,0xc67178f2]
structure S8 where
  a : Nat
  b : Nat
  c : Nat
  d : Nat
  e : Nat
  f : Nat
  g : Nat
  h : Nat
def S8.first : S8:=⟨0x6a09e667,0xbb67ae85,0x3c6ef372,0xa54ff53a,0x510e527f,0x9b05688c,0x1f83d9ab,0x5be0cd19⟩
def S8.p (v : S8) (k w : Nat) : Nat:=add32 (add32 (add32 (add32 v.h (shE1 v.e)) (shCh v.e v.f v.g)) k) w
def S8.q (v : S8) : Nat:=add32 (shE0 v.a) (shMaj v.a v.b v.c)
def S8.round (v : S8) (k w : Nat) : S8:=⟨add32 (v.p k w) v.q,v.a,v.b,v.c,add32 v.d (v.p k w),v.e,v.f,v.g⟩
def S8.add (s v : S8) : S8:=⟨add32 s.a v.a,add32 s.b v.b,add32 s.c v.c,add32 s.d v.d,add32 s.e v.e,add32 s.f v.f,add32 s.g v.g,add32 s.h v.h⟩
def shNext (w0 w1 w9 w14 : Nat) : Nat:=add32 (add32 (add32 w0 (shS0 w1)) w9) (shS1 w14)
def shWin (m : Nat → Nat) : Nat → Nat → Nat
  | 0,i => m i
  | t + 1,i => if i < 15 then shWin m t (i + 1) else shNext (shWin m t 0) (shWin m t 1) (shWin m t 9) (shWin m t 14)
def shWd (m : Nat → Nat) (t : Nat) : Nat:=shWin m t 0
theorem shWin_at (m : Nat → Nat) : ∀ (i t : Nat),i < 16 → shWin m t i = shWd m (t + i)
  | 0,_,_ => rfl
  | i + 1,t,h => by
    have h1 : shWin m (t + 1) i = shWin m t (i + 1):=by rw [shWin,if_pos (by omega)]
    rw [← h1,shWin_at m i (t + 1) (by omega)]
    congr 1
    omega
theorem shWd_low (m : Nat → Nat) (t : Nat) (h : t < 16) : shWd m t = m t:=by
  have:=shWin_at m t 0 h
  rw [Nat.zero_add] at this
  rw [← this,shWin]
theorem shWd_next (m : Nat → Nat) (t : Nat) : shWd m (t + 16) = shNext (shWd m t) (shWd m (t + 1)) (shWd m (t + 9)) (shWd m (t + 14)):=by
  have h:=shWin_at m 15 (t + 1) (by decide)
  rw [show t + 1 + 15 = t + 16 by omega] at h
  rw [← h,shWin,if_neg (by decide),shWin_at m 0 t (by decide),shWin_at m 1 t (by decide),shWin_at m 9 t (by decide),shWin_at m 14 t (by decide)]
  rfl
def shWord (b : Bs) (t : Nat) : Nat:=fromH ((b.drop (4 * t)).take 4) % 4294967296
def shRun (m : Nat → Nat) (s : S8) : Nat → S8
  | 0 => s
  | t + 1 => (shRun m s t).round (shK.getD t 0) (shWd m t)
def shMix (s : S8) (b : Bs) : S8:=s.add (shRun (shWord b) s 64)
def shMixF : Nat → S8 → Bs → S8 × Bs
  | 0,s,t => (s,t)
  | n + 1,s,t => if 64 ≤ t.length then shMixF n (shMix s (t.take 64)) (t.drop 64) else (s,t)
def shMixA (s : S8) (t : Bs) : S8 × Bs:=shMixF (t.length + 1) s t
def shPad (n : Nat) : Bs:=[128] ++ List.replicate ((119 - n % 64) % 64) 0 ++ highB (8 * n) 8
structure Sh where
  s : S8
  n : Nat
  rest : Bs
def Sh.new : Sh:=⟨S8.first,0,[]⟩
def Sh.add (x : Sh) (t : Bs) : Sh:=⟨(shMixA x.s (x.rest ++ t)).1,x.n + t.length,(shMixA x.s (x.rest ++ t)).2⟩
def S8.out (v : S8) : Bs:=highB v.a 4 ++ highB v.b 4 ++ highB v.c 4 ++ highB v.d 4 ++ highB v.e 4 ++ highB v.f 4 ++ highB v.g 4 ++ highB v.h 4
def Sh.sum (x : Sh) : Bs:=(shMixA x.s (x.rest ++ shPad x.n)).1.out
def shaB (t : Bs) : Bs:=(Sh.new.add t).sum
def macBlk (key : Bs) (by_ : UInt8) : Bs:=List.zipWith (fun x y => x ^^^ y) (key ++ List.replicate (64 - key.length) 0) (List.replicate 64 by_)
def macB (key text : Bs) : Bs:=shaB (macBlk key 92 ++ ((Sh.new.add (macBlk key 54)).add text).sum)
def saltB : Bs:=[112,111,115,116,104,111,114,110]
def keyInfo (d : Bs) (n : Nat) : Bs:=highB d.length 2 ++ d ++ highB n 8
def keyB (master d : Bs) (n : Nat) : Bs:=(macB (macB saltB master) (keyInfo d n ++ [1])).take 32
def S8.fit (v : S8) : Prop:=v.a < 4294967296 ∧ v.b < 4294967296 ∧ v.c < 4294967296 ∧ v.d < 4294967296 ∧ v.e < 4294967296 ∧ v.f < 4294967296 ∧ v.g < 4294967296 ∧ v.h < 4294967296
theorem S8.first_fit : S8.first.fit:=by unfold S8.fit S8.first; decide
theorem S8.round_fit {v : S8} (h : v.fit) (k w : Nat) : (v.round k w).fit:=⟨add32_lt _ _,h.1,h.2.1,h.2.2.1,add32_lt _ _,h.2.2.2.2.1,h.2.2.2.2.2.1,h.2.2.2.2.2.2.1⟩
theorem S8.add_fit (s v : S8) : (s.add v).fit:=⟨add32_lt _ _,add32_lt _ _,add32_lt _ _,add32_lt _ _,add32_lt _ _,add32_lt _ _,add32_lt _ _,add32_lt _ _⟩
theorem shRun_fit (m : Nat → Nat) {s : S8} (h : s.fit) : ∀ t,(shRun m s t).fit
  | 0 => h
  | t + 1 => S8.round_fit (shRun_fit m h t) _ _
theorem shMix_fit (s : S8) (b : Bs) : (shMix s b).fit:=S8.add_fit s _
theorem shMixF_fit : ∀ (n : Nat) (s : S8) (t : Bs),s.fit → (shMixF n s t).1.fit
  | 0,_,_,h => h
  | n + 1,s,t,h => by
    unfold shMixF
    split
    · exact shMixF_fit n _ _ (shMix_fit _ _)
    · exact h
theorem shMixF_rest : ∀ (n : Nat) (s : S8) (t : Bs),t.length < n → (shMixF n s t).2.length < 64
  | 0,_,_,h => absurd h (Nat.not_lt_zero _)
  | n + 1,s,t,h => by
    unfold shMixF
    split
    · exact shMixF_rest n _ _ (by rw [List.length_drop]; omega)
    · dsimp only; omega
theorem shMixF_more : ∀ (n : Nat) (s : S8) (t : Bs),t.length < n → shMixF (n + 1) s t = shMixF n s t
  | 0,_,_,h => absurd h (Nat.not_lt_zero _)
  | n + 1,s,t,h => by
    rw [shMixF]
    conv => rhs; rw [shMixF]
    split
    · exact shMixF_more n _ _ (by rw [List.length_drop]; omega)
    · rfl
theorem shMixA_step (s : S8) (t : Bs) (h : 64 ≤ t.length) : shMixA s t = shMixA (shMix s (t.take 64)) (t.drop 64):=by
  unfold shMixA
  have : ∀ k n (s : S8) (t : Bs),t.length < n → shMixF (n + k) s t = shMixF n s t:=by
    intro k
    induction k with
    | zero => intros; rfl
    | succ k ih => intro n s t hn; rw [show n + (k + 1) = (n + k) + 1 by omega,shMixF_more _ _ _ (by omega),ih n s t hn]
  rw [shMixF,if_pos h]
  have e:=this 63 (t.length - 63) (shMix s (t.take 64)) (t.drop 64) (by rw [List.length_drop]; omega)
  rw [show t.length - 63 + 63 = t.length by omega] at e
  rw [e]
  have e2 : (t.drop 64).length + 1 = t.length - 63:=by rw [List.length_drop]; omega
  rw [e2]
theorem shMixA_stop (s : S8) (t : Bs) (h : t.length < 64) : shMixA s t = (s,t):=by
  unfold shMixA
  rw [shMixF,if_neg (by omega)]
def Sh.ok (x : Sh) : Prop:=x.s.fit ∧ x.rest.length < 64
theorem Sh.new_ok : Sh.new.ok:=⟨S8.first_fit,by decide⟩
theorem Sh.add_ok {x : Sh} (h : x.ok) (t : Bs) : (x.add t).ok:=⟨shMixF_fit _ _ _ h.1,shMixF_rest _ _ _ (Nat.lt_succ_self _)⟩
theorem Sh.add_n (x : Sh) (t : Bs) : (x.add t).n = x.n + t.length:=rfl
theorem S8.out_length (v : S8) : v.out.length = 32:=by simp [S8.out,highB_length]
theorem shaB_length (t : Bs) : (shaB t).length = 32:=S8.out_length _
theorem macB_length (k t : Bs) : (macB k t).length = 32:=shaB_length _
theorem macBlk_length (key : Bs) (b : UInt8) (h : key.length ≤ 64) : (macBlk key b).length = 64:=by simp [macBlk]; omega
theorem keyB_length (m d : Bs) (n : Nat) : (keyB m d n).length = 32:=by unfold keyB; rw [List.length_take,macB_length]; rfl
theorem shPad_length (n : Nat) : (shPad n).length ≤ 72:=by simp [shPad,highB_length]; omega
end
section
open Go.RowKit
abbrev S8.agg (v : S8) : Value:=.agg #[.int .u32 v.a,.int .u32 v.b,.int .u32 v.c,.int .u32 v.d,.int .u32 v.e,.int .u32 v.f,.int .u32 v.g,.int .u32 v.h]
def S8.cells (v : S8) : Array Value:=#[.int .u32 v.a,.int .u32 v.b,.int .u32 v.c,.int .u32 v.d,.int .u32 v.e,.int .u32 v.f,.int .u32 v.g,.int .u32 v.h]
section
variable {w0 w : World} {F0 : List Nat} {L : List Res}
theorem octRight (x n k : Nat) (hx : x < 4294967296) (hn : 1 ≤ n) (hn2 : n ≤ 31) (hk : 32 - n = k) (w : World) : Calls Tryz.prog 274 #[.int .u32 x,.int .i64 n] w fun e w2 => e = .returned (.int .u32 (rotW x k)) ∧ w2 = w:=by
  have hL:=octLeft x k hx (by omega) w
  have hn' : (n : Int) ≤ 31:=by omega
  have h1 : (1 : Int) ≤ n:=by omega
  have e1 : IntKind.u64.wrap (n : Int) = n:=by rw [IntKind.wrap_u64]; omega
  have e2 : (n : Int).tmod 32 = n:=by rw [Int.tmod_eq_emod_of_nonneg (by omega)]; omega
  have e2b : (n : Int) % 32 = n:=by omega
  have e3 : (32 : Int) - n = k:=by omega
  have e4 : IntKind.i64.wrap (n : Int) = n:=by rw [IntKind.wrap_i64]; omega
  have e5 : IntKind.i64.wrap (k : Int) = k:=by rw [IntKind.wrap_i64]; omega
  go_enter Tryz.func274,Tryz.ntmps274
  go_wp2_with fail
  refine hL.mono ?_
  rintro e w2 ⟨rfl,rfl⟩
  go_wp2_with fail
  go_ret
  exact ⟨rfl,rfl⟩
theorem shFirst (S : Sp w0 F0 w L) : Calls Tryz.prog 249 #[] w fun e w2 => e = .returned S8.first.agg ∧ Sp w0 F0 w2 L:=by
  have HS0 : Hid (Sp w0 F0 (w.alloc (.cells #[.int .u32 0,.int .u32 0,.int .u32 0,.int .u32 0,.int .u32 0,.int .u32 0,.int .u32 0,.int .u32 0] 312)) (boxR w.heap.size #[.int .u32 0,.int .u32 0,.int .u32 0,.int .u32 0,.int .u32 0,.int .u32 0,.int .u32 0,.int .u32 0] 312 :: L)):=S.box _ _
  clear S
  go_enter Tryz.func249,Tryz.ntmps249
  go_upto_region 1 with (fail)
  generalize w.alloc _ = w1 at *
  generalize w.heap.size = g at *
  have b1:=HS0.out.boxed
  have HP:=Lib.hid (HS0.out.setRow S8.first.cells)
  clear HS0
  go_wp2_with (first
    | refine wpList_built rfl 312 _ rfl S8.first.cells (by kernel_rfl) ?_
    | refine wpList_store_row rfl 312 _ _ rfl g S8.first.cells rfl rfl 312 _ b1 (by kernel_rfl) (by kernel_rfl) (by kernel_rfl) ?_)
  refine bodyPost_ret (results_cell_row rfl _ _ g 312 S8.first.cells (0,0) _ rfl HP.out.boxed Tryz.underlying312 rfl (by kernel_rfl)) rfl ?_
  exact ⟨rfl,HP.out.drop⟩
theorem info64 : (Tryz.prog.info? 341).map (·.size) = some 64:=by kernel_rfl
theorem info64_of {c : Array Value} (h : c.size = 64) : (Tryz.prog.info? 341).map (·.size) = some c.size:=info64.trans (by rw [h])
def zeros64 : Array Value:=row32 (List.replicate 64 0)
theorem shTable (S : Sp w0 F0 w L) : Calls Tryz.prog 273 #[] w fun e w2 => e = .returned (.agg (row32 shK)) ∧ Sp w0 F0 w2 L:=by
  have HS0:=Lib.hid (S.box zeros64 341)
  clear S
  go_enter Tryz.func273,Tryz.ntmps273
  go_upto_region 1 with (fail)
  change Code.wp Tryz.prog _ _ _ (w.alloc (.cells zeros64 341))
  generalize w.alloc (.cells zeros64 341) = w1 at *
  generalize w.heap.size = g at *
  have b1:=HS0.out.boxed
  have HP:=Lib.hid (HS0.out.setRow (row32 shK))
  have hz : (row32 shK).size = 64:=by rw [row32_size]; decide
  have hz0 : zeros64.size = 64:=by unfold zeros64; rw [row32_size]; decide
  clear HS0
  go_wp2_with (first
    | refine wpList_built rfl 341 _ rfl (row32 shK) (by kernel_rfl) ?_
    | refine wpList_store_row rfl 341 _ _ rfl g (row32 shK) rfl rfl 341 _ b1 (info64_of hz0) (by rw [hz,hz0]) (row32_one _) ?_)
  refine bodyPost_ret (results_cell_row rfl _ _ g 341 (row32 shK) (0,0) _ rfl HP.out.boxed Tryz.underlying341 rfl (info64_of hz)) rfl ?_
  exact ⟨rfl,HP.out.drop⟩
def shTo (f : Nat → Nat) (k : Nat) : List Nat:=(List.range 64).map fun t => if t < k then f t else 0
theorem shTo_length (f : Nat → Nat) (k : Nat) : (shTo f k).length = 64:=by simp [shTo]
theorem shTo_get (f : Nat → Nat) (k t : Nat) (h : t < 64) : (shTo f k).getD t 0 = if t < k then f t else 0:=by simp [shTo,List.getD_eq_getElem?_getD,h]
theorem shTo_set (f : Nat → Nat) (k : Nat) (h : k < 64) : (shTo f k).set k (f k) = shTo f (k + 1):=by
  apply List.ext_getElem?
  intro t
  unfold shTo
  rw [List.getElem?_set]
  by_cases ht : t < 64
  · simp only [List.getElem?_map,List.getElem?_range ht,List.length_map,List.length_range,Option.map_some]
    split
    · subst_vars; simp [h]
    · rename_i hne
      by_cases h1 : t < k
      · rw [if_pos h1,if_pos (by omega)]
      · rw [if_neg h1,if_neg (by omega)]
  · have h2 : ∀ g : Nat → Nat,((List.range 64).map g)[t]? = none:=fun g => List.getElem?_eq_none (by simp; omega)
    rw [if_neg (by omega),h2,h2]
theorem shTo_zero (f : Nat → Nat) : shTo f 0 = List.replicate 64 0:=by simp [shTo,List.map_const']
theorem shTo_congr {f g : Nat → Nat} {k : Nat} (h : ∀ t,t < k → f t = g t) : shTo f k = shTo g k:=by
  unfold shTo
  refine List.map_congr_left fun t _ => ?_
  split
  · rename_i ht; exact h t ht
  · rfl
theorem shWord_lt (b : Bs) (t : Nat) : shWord b t < 4294967296:=Nat.mod_lt _ (by decide)
theorem shWd_lt (b : Bs) : ∀ t,shWd (shWord b) t < 4294967296:=fun t => by
  by_cases h : t < 16
  · rw [shWd_low _ _ h]; exact shWord_lt b t
  · obtain ⟨k,rfl⟩ : ∃ k,t = k + 16:=⟨t - 16,by omega⟩
    rw [shWd_next]
    exact add32_lt _ _
theorem sig3 (A B C : Nat) (hA : A < 4294967296) (hB : B < 4294967296) (hC : C < 4294967296) : bits .xor .u32 (A : Int) (B : Int) = ((A ^^^ B : Nat) : Int) ∧ bits .xor .u32 ((A ^^^ B : Nat) : Int) (C : Int) = ((A ^^^ B ^^^ C : Nat) : Int) ∧ A ^^^ B ^^^ C < 4294967296 :=
  ⟨xor_32 _ _ hA hB,xor_32 _ _ (xor32_lt _ _ hA hB) hC,xor32_lt _ _ (xor32_lt _ _ hA hB) hC⟩
theorem shSchedule (t : Bs) (ht : t.length = 64) (S : Sp w0 F0 w L) : Calls Tryz.prog 272 #[.string ⟨t.toArray⟩] w fun e w2 => e = .returned (.agg (row32 (shTo (shWd (shWord t)) 64))) ∧ Sp w0 F0 w2 L:=by
  have HT:=Lib.hid ht
  have HS0:=Lib.hid ((S.box zeros64 341).box zeros64 341)
  have hsz : ∀ o : Obj,(w.alloc o).heap.size = w.heap.size + 1:=fun o => Array.size_push _
  rw [hsz] at HS0
  have hlen : (t.length : Int) = 64:=by omega
  clear S hsz ht
  go_enter Tryz.func272,Tryz.ntmps272
  go_wp2_with fail
  change Code.wp Tryz.prog _ _ _ ((w.alloc (.cells zeros64 341)).alloc (.cells zeros64 341))
  generalize (w.alloc (.cells zeros64 341)).alloc (.cells zeros64 341) = w3 at *
  generalize w.heap.size + 1 = g at *
  generalize w.heap.size = g0 at *
  have HS1 : Hid (Sp w0 F0 w3 (boxR g (row32 (shTo (shWord t) 0)) 341 :: boxR g0 zeros64 341 :: L)):=by unfold Hid; rw [shTo_zero]; exact HS0.out
  clear HS0
  go_loopw [12] (fun i wr => ∃ k : Nat,i = .int .i64 k ∧ k ≤ 16 ∧ Sp w0 F0 wr (boxR g (row32 (shTo (shWord t) k)) 341 :: boxR g0 zeros64 341 :: L)) (fun i _ => 17 - (intOf i).toNat)
  case atStart => exact ⟨0,rfl,Nat.zero_le _,HS1.out⟩
  case round =>
    clear HS1
    obtain ⟨k,rfl,hk,S⟩:=hrel
    have HS:=Lib.hid S
    clear S
    by_cases hlt : k < 16
    · have hlt' : (k : Int) < 16:=by omega
      have hcut:=cut_mid t (4 * k) (4 * (k + 1))
      have HD : Hid ((t.take (4 * (k + 1))).drop (4 * k) = (t.drop (4 * k)).take 4):=by unfold Hid; rw [List.drop_take,show 4 * (k + 1) - 4 * k = 4 by omega]
      rw [HD.out] at hcut
      have HDL : Hid (((t.drop (4 * k)).take 4).length ≤ 8):=by unfold Hid; rw [List.length_take]; omega
      have HF:=Lib.hid (fun w' => fromHigh_any ((t.drop (4 * k)).take 4) w' HDL.out)
      have HU : Hid ((shTo (shWord t) k).set k (fromH ((t.drop (4 * k)).take 4) % 4294967296) = shTo (shWord t) (k + 1)):=shTo_set (shWord t) k (by omega)
      have HLK:=Lib.hid (shTo_length (shWord t) k)
      clear HD HDL
      generalize (t.drop (4 * k)).take 4 = tk at *
      generalize fromH tk = fl at *
      go_wp2_with fail
      refine (HF.out _).mono ?_
      rintro e w4 ⟨rfl,rfl⟩
      have fk:=HS.out.free k
      have ck:=HS.out.at32 (i:=k) (by rw [HLK.out]; omega)
      have HP:=HS.out.put32 k (fl % 4294967296) _ HU.out
      rw [← lowWord] at HP
      have HP:=Lib.hid HP
      clear HS HF hcut HU
      go_wp2_with fail
      exact ⟨⟨k + 1,by go_num,by omega,HP.out⟩,by simp [intOf]; omega⟩
    · have hk16 : Hid (k = 16):=by unfold Hid; omega
      have hge : ¬ (k : Int) < 16:=by omega
      obtain ⟨k0,hk0⟩ : ∃ k0,k = k0:=⟨_,rfl⟩
      have HS2 : Hid (Sp w0 F0 wr (boxR g (row32 (shTo (shWd (shWord t)) 16)) 341 :: boxR g0 zeros64 341 :: L)):=by
        unfold Hid
        have HS:=HS.out
        rw [hk16.out] at HS
        rw [shTo_congr (g:=shWord t) (fun i hi => shWd_low _ _ hi)]
        exact HS
      have HW:=Lib.hid (shWd_lt t)
      have HN:=Lib.hid (shWd_next (shWord t))
      obtain ⟨W,hW⟩ : ∃ W,shWd (shWord t) = W:=⟨_,rfl⟩
      rw [hW] at HS2 HW HN
      have HWE:=Lib.hid hW
      clear hW
      clear HS hlt hk hk0 hk16
      obtain ⟨wo,rfl⟩ : ∃ wo : World,wo = wr:=⟨_,rfl⟩
      go_wp2_with fail
      go_loopw [7] (fun i wq => ∃ k : Nat,i = .int .i64 k ∧ 16 ≤ k ∧ k ≤ 64 ∧ Sp w0 F0 wq (boxR g (row32 (shTo W k)) 341 :: boxR g0 zeros64 341 :: L)) (fun i _ => 65 - (intOf i).toNat)
      case atStart => exact ⟨16,rfl,Nat.le_refl _,by decide,HS2.out⟩
      case round =>
        clear HS2
        obtain ⟨k,rfl,hk1,hk2,S⟩:=hrel
        have HS:=Lib.hid S
        have HLK:=Lib.hid (shTo_length W k)
        clear S
        by_cases hlt : k < 64
        · have hlt' : (k : Int) < 64:=by omega
          have hk1' : (16 : Int) ≤ k:=by omega
          obtain ⟨p,hk⟩ : ∃ p,p + 16 = k:=⟨k - 16,by omega⟩
          have m16 : (k : Int) - 16 = p:=by omega
          obtain ⟨p1,m15⟩ : ∃ q : Nat,(k : Int) - 15 = q:=⟨p + 1,by omega⟩
          obtain ⟨p9,m7⟩ : ∃ q : Nat,(k : Int) - 7 = q:=⟨p + 9,by omega⟩
          obtain ⟨p14,m2⟩ : ∃ q : Nat,(k : Int) - 2 = q:=⟨p + 14,by omega⟩
          have i0 : IntKind.i64.wrap (p : Int) = p:=by rw [IntKind.wrap_i64]; omega
          have i1 : IntKind.i64.wrap (p1 : Int) = p1:=by rw [IntKind.wrap_i64]; omega
          have i9 : IntKind.i64.wrap (p9 : Int) = p9:=by rw [IntKind.wrap_i64]; omega
          have i14 : IntKind.i64.wrap (p14 : Int) = p14:=by rw [IntKind.wrap_i64]; omega
          have b0 : (p : Int) < 64:=by omega
          have b1 : (p1 : Int) < 64:=by omega
          have b9 : (p9 : Int) < 64:=by omega
          have b14 : (p14 : Int) < 64:=by omega
          have HAT : Hid (∀ {w' : World},Sp w0 F0 w' (boxR g (row32 (shTo W k)) 341 :: boxR g0 zeros64 341 :: L) → ∀ q,q < k → w'.cell? ⟨g,q,none⟩ = some (.int .u32 (W q))):=fun {w'} S' q hq => by
            rw [S'.at32 (by rw [HLK.out]; omega),shTo_get _ _ _ (by omega),if_pos hq]
          have HV : Hid (W k = shNext (W p) (W p1) (W p9) (W p14)):=by
            unfold Hid
            rw [← hk,HN.out p,show p + 1 = p1 by omega,show p + 9 = p9 by omega,show p + 14 = p14 by omega]
          have h0:=HW.out p
          have h1:=HW.out p1
          have h9:=HW.out p9
          have h14:=HW.out p14
          have HU : Hid ((shTo W k).set k (W k) = shTo W (k + 1)):=shTo_set W k (by omega)
          rw [HV.out] at HU
          have c1:=HAT.out HS.out p1 (by omega)
          have c14:=HAT.out HS.out p14 (by omega)
          have HA0:=Lib.hid (fun (w' : World) (S' : Sp w0 F0 w' (boxR g (row32 (shTo W k)) 341 :: boxR g0 zeros64 341 :: L)) => HAT.out S' p (by omega))
          have HA9:=Lib.hid (fun (w' : World) (S' : Sp w0 F0 w' (boxR g (row32 (shTo W k)) 341 :: boxR g0 zeros64 341 :: L)) => HAT.out S' p9 (by omega))
          generalize W p1 = x at *
          generalize W p14 = y at *
          generalize W p = u at *
          generalize W p9 = z at *
          clear HAT HN HV HW
          go_wp2_with fail
          go_region
          all_goals
            have HS2:=Lib.hid HS.out.drew
            clear c1 c14 HS
            have HR1:=Lib.hid (fun w' => octRight x 7 25 h1 (by decide) (by decide) rfl w')
            have HR2:=Lib.hid (fun w' => octRight x 18 14 h1 (by decide) (by decide) rfl w')
            have HR3:=Lib.hid (fun w' => octRight y 17 15 h14 (by decide) (by decide) rfl w')
            have HR4:=Lib.hid (fun w' => octRight y 19 13 h14 (by decide) (by decide) rfl w')
            have hA:=rotW_lt x 25 h1
            have hB:=rotW_lt x 14 h1
            have hC:=rotW_lt y 15 h14
            have hD:=rotW_lt y 13 h14
            have HE : Hid (shNext u x z y = add32 (add32 (add32 u (rotW x 25 ^^^ rotW x 14 ^^^ x / 8)) z) (rotW y 15 ^^^ rotW y 13 ^^^ y / 1024)):=rfl
            rw [HE.out] at HU
            clear HE
            generalize rotW x 25 = A at *
            generalize rotW x 14 = B at *
            generalize rotW y 15 = C at *
            generalize rotW y 13 = D at *
            have hx8 : (x : Int) / 8 = ((x / 8 : Nat) : Int):=by omega
            have hy8 : (y : Int) / 1024 = ((y / 1024 : Nat) : Int):=by omega
            have hx9 : x / 8 < 4294967296:=by omega
            have hy9 : y / 1024 < 4294967296:=by omega
            generalize x / 8 = xx at *
            generalize y / 1024 = yy at *
            obtain ⟨e1,e2,e3⟩:=sig3 A B xx hA hB hx9
            obtain ⟨e4,e5,e6⟩:=sig3 C D yy hC hD hy9
            generalize A ^^^ B ^^^ xx = s0 at *
            generalize C ^^^ D ^^^ yy = s1 at *
            generalize A ^^^ B = ab at *
            generalize C ^^^ D = cd at *
            clear hA hB hC hD hx9 hy9
            go_wp2_with fail
            refine (HR1.out _).mono ?_
            rintro e w2 ⟨rfl,rfl⟩
            go_wp2_with fail
            refine (HR2.out _).mono ?_
            rintro e w2 ⟨rfl,rfl⟩
            go_wp2_with fail
            refine (HR3.out _).mono ?_
            rintro e w2 ⟨rfl,rfl⟩
            go_wp2_with fail
            refine (HR4.out _).mono ?_
            rintro e w2 ⟨rfl,rfl⟩
            clear HR1 HR2 HR3 HR4
            have c0:=HA0.out _ HS2.out
            have c9:=HA9.out _ HS2.out
            have ck:=HS2.out.at32 (i:=k) (by rw [HLK.out]; exact hlt)
            have fk:=HS2.out.free k
            have a1:=add_32 u s0
            have a2:=add_32 (add32 u s0) z
            have a3:=add_32 (add32 (add32 u s0) z) s1
            have HP:=Lib.hid ((HS2.out.put32 k _ _ HU.out).drew)
            generalize add32 (add32 (add32 u s0) z) s1 = v3 at *
            generalize add32 (add32 u s0) z = v2 at *
            generalize add32 u s0 = v1 at *
            clear HS2 HU
            go_wp2_with fail
            go_region
            all_goals
              clear c0 c9 ck fk
              go_wp2_with fail
              go_roundw
              case rel => exact ⟨k + 1,by go_num,by omega,by omega,HP.out⟩
              case measure => (simp [intOf]; try omega)
        · have hk64 : k = 64:=by omega
          have hge64 : ¬ (k : Int) < 64:=by omega
          have hS:=HS.out
          rw [hk64] at hS
          have HS:=Lib.hid hS
          have hL:=HLK.out
          rw [hk64] at hL
          have HLK:=Lib.hid hL
          clear hS hL hk64 hlt hk1 hk2
          have bx:=HS.out.boxed
          have b2:=HS.out.pull1.boxed
          have HP:=Lib.hid (HS.out.pull1.setRow (row32 (shTo W 64)))
          have hz:=HLK.out
          have hz1 : (row32 (shTo W 64)).size = 64:=by rw [row32_size,hz]
          have hz0 : zeros64.size = 64:=by unfold zeros64; rw [row32_size]; decide
          obtain ⟨fin,hfin⟩ : ∃ fin,shTo W 64 = fin:=⟨_,rfl⟩
          rw [hfin] at bx HP hz hz1
          have HFI:=Lib.hid hfin
          clear HW HN
          go_wp2_with (first
            | refine wpList_load_row rfl 341 _ rfl g rfl 341 (row32 fin) (0,0) _ bx Tryz.underlying341 rfl (info64_of hz1) ?_
            | refine wpList_store_row rfl 341 _ _ rfl g0 (row32 fin) rfl rfl 341 _ b2 (info64_of hz1) (by rw [hz1,hz0]) (row32_one _) ?_)
          refine bodyPost_ret (results_cell_row rfl _ _ g0 341 (row32 fin) (0,0) _ rfl HP.out.boxed Tryz.underlying341 rfl (info64_of hz1)) rfl ?_
          exact ⟨by rw [HWE.out,HFI.out],HP.out.drop.drop⟩
end
end
end Go.Proofs.YtangbdahnmomlaaGreatDoor
