/- strings.Builder as a part of memory: WriteString, Len, String (of a fresh one too). Conditions: the lengths fit. chacha: four numbers stirred, plainly (the adds, the xors and the turns as numbers below 2^32). Conditions: the numbers are below 2^32. chacha: Stir. Conditions: the numbers are below 2^32. chacha: a block, plainly: sixteen numbers below 2^32, stirred at their places. No condition. chacha: places, begin, may. Conditions: the lengths fit. -/
import Derived.Test.YtkenacggjffjnaaGreatDoorBld
import Derived.Test.YtkenacggjffjnaaGreatDoorSp
import Derived.Test.YtkenacggjffjnaaGreatDoorOcY
import Derived.Test.YtkenacggjffjnaaGreatDoorArI
import Derived.Test.YtkenacggjffjnaaGreatDoorRd
import Derived.Test.YtkenacggjffjnaaGreatDoorEnv
/-! BldS -/
set_option linter.unusedSimpArgs false
set_option linter.unusedVariables false
set_option linter.unnecessarySimpa false
namespace Go.Proofs.YtkenacggjffjnaaGreatDoor
open Go.RowKit Go.Maps

abbrev bldX (T b : Nat) (l : Bs) : Res where
  holds := fun F w => Bld T w b F l
  keeps := fun h hx hd => h.ext hx hd
  inside := fun h => h.lt
section
variable {w0 w : World} {F0 : List Nat} {L : List Res} {T b : Nat} {l s : Bs}
theorem Bld.freshX (w : World) (T : TypeId) : Bld T (w.alloc (.cells #[.pointer none, .slice none 0 0] T)) w.heap.size [w.heap.size] [] :=
  ⟨_, _, .inl rfl, heap_alloc_new _ _, World.ownsRowF_nil _ _ _ _, by simp [Value.ownBlock], by simp [Value.ownBlock]⟩
theorem Sp.bldNewX (S : Sp w0 F0 w L) (T : TypeId) : Sp w0 F0 (w.alloc (.cells #[.pointer none, .slice none 0 0] T)) (bldX T w.heap.size [] :: L) :=
  S.gain ((Ext.refl [] w).alloc _) (Bld.freshX w T) (by simp)
theorem writeStrX (s : Bs) (S : Sp w0 F0 w (bldX 65 b l :: L)) (hl : l.length + s.length ≤ 1000000000000) :
    Calls Tryz.prog 67 #[.pointer (some ⟨b, 0, none⟩), .string ⟨s.toArray⟩] w fun e w2 => e = .returned (.tuple #[.int .i64 s.length, .nilIface]) ∧ Sp w0 F0 w2 (bldX 65 b (l ++ s) :: L) := by
  obtain ⟨F, h, hk⟩ := S.take
  exact (writeStr_any 65 b F l s w isOutBld h (by omega)).mono fun _ _ ⟨he, F2, h2, m⟩ => ⟨he, hk _ _ F2 h2 m⟩
theorem stringX (S : Sp w0 F0 w (bldX T b l :: L)) (h0 : l ≠ []) :
    Calls Tryz.prog 36 #[.pointer (some ⟨b, 0, none⟩)] w fun e w2 => e = .returned (.string ⟨l.toArray⟩) ∧ Sp w0 F0 w2 L := by
  obtain ⟨F, h, hk⟩ := S.take
  refine (bldString_any T b F l w h h0).mono fun _ w2 ⟨he, hx⟩ => ⟨he, ?_⟩
  exact (hk w2 ⟨fun F _ => F = [], fun h _ _ => h, fun h x hx => by rw [h] at hx; cases hx⟩ [] rfl ⟨hx, by simp⟩).drop
set_option maxRecDepth 100000 in
set_option maxHeartbeats 1000000 in
/-- A Builder into which nothing was written. -/
theorem stringNil (S : Sp w0 F0 w (boxR b #[.pointer none, .slice none 0 0] T :: L)) :
    Calls Tryz.prog 36 #[.pointer (some ⟨b, 0, none⟩)] w fun e w2 => e = .returned (.string ⟨#[]⟩) ∧ Sp w0 F0 w2 L := by
  have HS := Lib.hid S.drop.drew
  have c1 : w.drew.cell? ⟨b, 1, none⟩ = some (.slice none 0 0) := by rw [S.drew.cell]; rfl
  have hSD : ∀ ts ty, (Builtin.unsafeSliceData_ ts ty #[.slice none 0 0]).run Tryz.prog w.drew = .ok (.pointer none) w.drew := fun ts ty => Lib.run_unsafeSliceData_nil _ _ _ _ _
  have hUS : (Builtin.unsafeString_ #[110, 3] 9 #[.pointer none, .int .i64 0]).run Tryz.prog w.drew = .ok (.string ⟨#[]⟩) w.drew := Lib.run_unsafeString_none _ _ _ _ _
  clear S
  go_enter Tryz.func36, Tryz.ntmps36
  go_wp2
  go_region
  all_goals (go_wp2; go_ret; exact ⟨rfl, HS.out⟩)
set_option maxRecDepth 100000 in
set_option maxHeartbeats 1000000 in
theorem lenX (S : Sp w0 F0 w (bldX T b l :: L)) :
    Calls Tryz.prog 116 #[.pointer (some ⟨b, 0, none⟩)] w fun e w2 => e = .returned (.int .i64 l.length) ∧ Sp w0 F0 w2 (bldX T b l :: L) := by
  have HS := Lib.hid S
  obtain ⟨F, ⟨p, v, hp, hb, hr, hn, rfl⟩, hk⟩ := S.take
  have c1 : w.cell? ⟨b, 1, none⟩ = some v := by rw [box_cell hb]; rfl
  obtain ⟨a, cap, rfl⟩ : ∃ a cap, v = .slice a l.length cap := by
    rcases hr.2 with ⟨rfl, hz⟩ | ⟨g, cap, cur, fz, rfl, r⟩
    · exact ⟨none, 0, by rw [hz]⟩
    · exact ⟨_, _, rfl⟩
  clear hp hb hr hn hk S
  go_enter Tryz.func116, Tryz.ntmps116
  go_wp2
  go_ret
  exact ⟨rfl, HS.out⟩
set_option maxRecDepth 100000 in
theorem lenNil (S : Sp w0 F0 w (boxR b #[.pointer none, .slice none 0 0] T :: L)) :
    Calls Tryz.prog 116 #[.pointer (some ⟨b, 0, none⟩)] w fun e w2 => e = .returned (.int .i64 0) ∧ Sp w0 F0 w2 (boxR b #[.pointer none, .slice none 0 0] T :: L) := by
  have HS := Lib.hid S
  have c1 : w.cell? ⟨b, 1, none⟩ = some (.slice none 0 0) := by rw [S.cell]; rfl
  clear S
  go_enter Tryz.func116, Tryz.ntmps116
  go_wp2
  go_ret
  exact ⟨rfl, HS.out⟩
end
end Go.Proofs.YtkenacggjffjnaaGreatDoor

/-! ChP -/
namespace Go.Proofs.YtkenacggjffjnaaGreatDoor
open Go.RowKit

section
variable {w0 w : World} {F0 : List Nat} {L : List Res} {v : Value}
def add32 (a b : Nat) : Nat := (a + b) % 4294967296
theorem add32_lt (a b : Nat) : add32 a b < 4294967296 := Nat.mod_lt _ (by decide)
theorem add_32 (a b : Nat) : ((a : Int) + (b : Int)) % 4294967296 = (add32 a b : Int) := by
  unfold add32
  omega
theorem xor32_lt (a b : Nat) (ha : a < 4294967296) (hb : b < 4294967296) : a ^^^ b < 4294967296 := Nat.xor_lt_two_pow (n := 32) ha hb
theorem xor_32 (a b : Nat) (ha : a < 4294967296) (hb : b < 4294967296) : bits .xor .u32 (a : Int) (b : Int) = ((a ^^^ b : Nat) : Int) := by
  have hx : a ^^^ b < 2 ^ 32 := Nat.xor_lt_two_pow ha hb
  unfold bits
  simp [IntKind.wrap, IntKind.signed, IntKind.bits]
  have e : (BitVec.ofNat 32 a ^^^ BitVec.ofNat 32 b).toNat = a ^^^ b := by
    rw [BitVec.toNat_xor, BitVec.toNat_ofNat, BitVec.toNat_ofNat, Nat.mod_eq_of_lt ha, Nat.mod_eq_of_lt hb]
  have e2 : ((BitVec.ofNat 32 a ^^^ BitVec.ofNat 32 b).toNat : Int) = ((a ^^^ b : Nat) : Int) := by rw [e]
  show ((BitVec.ofNat 32 a ^^^ BitVec.ofNat 32 b).toNat : Int) % 4294967296 = ((a ^^^ b : Nat) : Int)
  rw [e2]
  omega
/-- Four numbers. -/
structure W4 where
  a : Nat
  b : Nat
  c : Nat
  d : Nat
def W4.fit (q : W4) : Prop := q.a < 4294967296 ∧ q.b < 4294967296 ∧ q.c < 4294967296 ∧ q.d < 4294967296
def W4.half (n m : Nat) (q : W4) : W4 :=
  let a := add32 q.a q.b
  let d := rotW (q.d ^^^ a) n
  let c := add32 q.c d
  ⟨a, rotW (q.b ^^^ c) m, c, d⟩
theorem W4.half_fit (n m : Nat) (q : W4) (h : q.fit) : (q.half n m).fit :=
  ⟨add32_lt _ _, rotW_lt _ _ (xor32_lt _ _ h.2.1 (add32_lt _ _)), add32_lt _ _, rotW_lt _ _ (xor32_lt _ _ h.2.2.2 (add32_lt _ _))⟩
def W4.upto (q : W4) : Nat → W4
  | 0 => q
  | 1 => q.half 16 12
  | _ => (q.half 16 12).half 8 7
theorem W4.upto_fit (q : W4) (h : q.fit) : ∀ k, (q.upto k).fit
  | 0 => h
  | 1 => half_fit _ _ _ h
  | _ + 2 => half_fit _ _ _ (half_fit _ _ _ h)
theorem half_walk (n m : Nat) (q : W4) (h : q.fit) : ((q.a : Int) + (q.b : Int)) % 4294967296 = ((q.half n m).a : Int) ∧ bits .xor .u32 (q.d : Int) ((q.half n m).a : Int) = ((q.d ^^^ (q.half n m).a : Nat) : Int) ∧ ((q.c : Int) + ((q.half n m).d : Int)) % 4294967296 = ((q.half n m).c : Int) ∧ bits .xor .u32 (q.b : Int) ((q.half n m).c : Int) = ((q.b ^^^ (q.half n m).c : Nat) : Int) :=
  ⟨add_32 _ _, xor_32 _ _ h.2.2.2 (add32_lt _ _), add_32 _ _, xor_32 _ _ h.2.1 (add32_lt _ _)⟩
end
end Go.Proofs.YtkenacggjffjnaaGreatDoor

/-! ChS -/
namespace Go.Proofs.YtkenacggjffjnaaGreatDoor
open Go.RowKit

section
variable {w0 w : World} {F0 : List Nat} {L : List Res} {v : Value}
theorem Sp.put4 {b : Nat} {T : TypeId} {a0 a1 a2 a3 : Value} (S : Sp w0 F0 w (boxR b #[a0, a1, a2, a3] T :: L)) (u0 u1 u2 u3 : Value) : Sp w0 F0 ((((w.setCell ⟨b, 0, none⟩ u0).setCell ⟨b, 1, none⟩ u1).setCell ⟨b, 2, none⟩ u2).setCell ⟨b, 3, none⟩ u3) (boxR b #[u0, u1, u2, u3] T :: L) := by
  have h := (((S.set (o := 0) u0).set (o := 1) u1).set (o := 2) u2).set (o := 3) u3
  simp only [List.setIfInBounds_toArray, List.set_cons_zero, List.set_cons_succ] at h
  exact h
set_option maxRecDepth 100000 in
set_option maxHeartbeats 1000000 in
theorem chStir (q : W4) (hq : q.fit) (S : Sp w0 F0 w L) : Calls Tryz.prog 175 #[.agg #[.int .u32 q.a, .int .u32 q.b, .int .u32 q.c, .int .u32 q.d]] w fun e w2 => e = .returned (.agg #[.int .u32 (q.upto 2).a, .int .u32 (q.upto 2).b, .int .u32 (q.upto 2).c, .int .u32 (q.upto 2).d]) ∧ Sp w0 F0 w2 L := by
  have HS0 := Lib.hid (((S.new (.cells #[.int .u32 q.a, .int .u32 q.b, .int .u32 q.c, .int .u32 q.d] 189)).box #[.int .u32 0, .int .u32 0, .int .u32 0, .int .u32 0] 189).drew)
  have hsz : ∀ o : Obj, (w.alloc o).heap.size = w.heap.size + 1 := fun o => Array.size_push _
  rw [hsz] at HS0
  clear hsz
  clear S
  go_enter Tryz.func175, Tryz.ntmps175
  go_wp2_with fail
  go_region
  go_wp2_with fail
  generalize (World.alloc _ _).drew = w1 at *
  generalize w.heap.size + 1 = g at *
  generalize w.heap.size = g0 at *
  go_loopw [3, 4, 5, 6, 20] (fun a b c d i wr => ∃ k : Nat, a = .int .u32 (q.upto k).a ∧ b = .int .u32 (q.upto k).b ∧ c = .int .u32 (q.upto k).c ∧ d = .int .u32 (q.upto k).d ∧ i = .int .i64 k ∧ k ≤ 2 ∧ Sp w0 F0 wr (boxR g #[.int .u32 0, .int .u32 0, .int .u32 0, .int .u32 0] 189 :: L)) (fun _ _ _ _ i _ => 2 - (intOf i).toNat)
  case atStart => exact ⟨0, rfl, rfl, rfl, rfl, rfl, by decide, HS0.out⟩
  case round =>
    obtain ⟨k, rfl, rfl, rfl, rfl, rfl, hk, S⟩ := hrel
    have HS := Lib.hid S
    clear S
    by_cases hlt : k < 2
    · rcases (by omega : k = 0 ∨ k = 1) with rfl | rfl
      · obtain ⟨e1, e2, e3, e4⟩ := half_walk 16 12 (q.upto 0) (q.upto_fit hq 0)
        have hf := q.upto_fit hq 0
        have hg := (q.upto 0).half_fit 16 12 hf
        have HC1 := Lib.hid (fun w' => octLeft ((q.upto 0).d ^^^ ((q.upto 0).half 16 12).a) 16 (xor32_lt _ _ hf.2.2.2 hg.1) (by decide) w')
        have HC2 := Lib.hid (fun w' => octLeft ((q.upto 0).b ^^^ ((q.upto 0).half 16 12).c) 12 (xor32_lt _ _ hf.2.1 hg.2.2.1) (by decide) w')
        clear hf hg
        have HD : Hid (rotW ((q.upto 0).d ^^^ ((q.upto 0).half 16 12).a) 16 = ((q.upto 0).half 16 12).d) := Lib.hid rfl
        have HB : Hid (rotW ((q.upto 0).b ^^^ ((q.upto 0).half 16 12).c) 12 = ((q.upto 0).half 16 12).b) := Lib.hid rfl
        have HU : Hid (q.upto (0 + 1) = (q.upto 0).half 16 12) := Lib.hid rfl
        have i0 : ∀ w', (Instr.index 201 (.agg #[.int .i64 16, .int .i64 12, .int .i64 8, .int .i64 7]) (.int .i64 0)).run Tryz.prog w' = .ok (.agg #[.int .i64 16, .int .i64 12]) w' := fun _ => by kernel_rfl
        have HN := Lib.hid (HS.out.new (.cells #[.int .i64 16, .int .i64 12] 200))
        go_wp2_with fail
        refine (HC1.out _).mono ?_
        rintro e w2 ⟨rfl, rfl⟩
        rw [HD.out]
        go_wp2_with fail
        refine (HC2.out _).mono ?_
        rintro e w2 ⟨rfl, rfl⟩
        rw [HB.out]
        go_wp2_with fail
        refine ⟨⟨0 + 1, ?_, ?_, ?_, ?_, ?_, by decide, HN.out⟩, by simp [intOf]⟩
        all_goals first
          | rfl
          | (rw [HU.out]; first | rfl | rw [e1] | rw [e3])
      · obtain ⟨e1, e2, e3, e4⟩ := half_walk 8 7 (q.upto 1) (q.upto_fit hq 1)
        have hf := q.upto_fit hq 1
        have hg := (q.upto 1).half_fit 8 7 hf
        have HC1 := Lib.hid (fun w' => octLeft ((q.upto 1).d ^^^ ((q.upto 1).half 8 7).a) 8 (xor32_lt _ _ hf.2.2.2 hg.1) (by decide) w')
        have HC2 := Lib.hid (fun w' => octLeft ((q.upto 1).b ^^^ ((q.upto 1).half 8 7).c) 7 (xor32_lt _ _ hf.2.1 hg.2.2.1) (by decide) w')
        clear hf hg
        have HD : Hid (rotW ((q.upto 1).d ^^^ ((q.upto 1).half 8 7).a) 8 = ((q.upto 1).half 8 7).d) := Lib.hid rfl
        have HB : Hid (rotW ((q.upto 1).b ^^^ ((q.upto 1).half 8 7).c) 7 = ((q.upto 1).half 8 7).b) := Lib.hid rfl
        have HU : Hid (q.upto (1 + 1) = (q.upto 1).half 8 7) := Lib.hid rfl
        have i0 : ∀ w', (Instr.index 201 (.agg #[.int .i64 16, .int .i64 12, .int .i64 8, .int .i64 7]) (.int .i64 1)).run Tryz.prog w' = .ok (.agg #[.int .i64 8, .int .i64 7]) w' := fun _ => by kernel_rfl
        have HN := Lib.hid (HS.out.new (.cells #[.int .i64 8, .int .i64 7] 200))
        go_wp2_with fail
        refine (HC1.out _).mono ?_
        rintro e w2 ⟨rfl, rfl⟩
        rw [HD.out]
        go_wp2_with fail
        refine (HC2.out _).mono ?_
        rintro e w2 ⟨rfl, rfl⟩
        rw [HB.out]
        go_wp2_with fail
        refine ⟨⟨1 + 1, ?_, ?_, ?_, ?_, ?_, by decide, HN.out⟩, by simp [intOf]⟩
        all_goals first
          | rfl
          | (rw [HU.out]; first | rfl | rw [e1] | rw [e3])
    · obtain rfl : k = 2 := by omega
      have cq := HS.out.cell
      have fq := HS.out.free
      have HP := Lib.hid (HS.out.put4 (.int .u32 (q.upto 2).a) (.int .u32 (q.upto 2).b) (.int .u32 (q.upto 2).c) (.int .u32 (q.upto 2).d))
      clear HS
      go_wp2
      refine bodyPost_ret (results_cell_row rfl _ _ g 189 #[.int .u32 (q.upto 2).a, .int .u32 (q.upto 2).b, .int .u32 (q.upto 2).c, .int .u32 (q.upto 2).d] (0, 0) _ rfl HP.out.boxed Tryz.underlying189 rfl (by kernel_rfl)) rfl ?_
      exact ⟨rfl, HP.out.drop⟩
end
end Go.Proofs.YtkenacggjffjnaaGreatDoor

/-! ChB -/
namespace Go.Proofs.YtkenacggjffjnaaGreatDoor
open Go.RowKit

/-- Numbers below 2^32. -/
def U32s (l : List Nat) : Prop := ∀ x ∈ l, x < 4294967296
theorem U32s.getD {l : List Nat} (h : U32s l) (i : Nat) : l.getD i 0 < 4294967296 := by
  rw [List.getD_eq_getElem?_getD]
  cases e : l[i]? with
  | none => simp
  | some x => exact h x (List.mem_of_getElem? e)
theorem U32s.set {l : List Nat} (h : U32s l) (i x : Nat) (hx : x < 4294967296) : U32s (l.set i x) := fun y hy => by
  rcases List.mem_or_eq_of_mem_set hy with hy | rfl
  · exact h y hy
  · exact hx
/-- A row of numbers of the kind u32. -/
def row32 (l : List Nat) : Array Value := (l.map fun n : Nat => Value.int .u32 n).toArray
theorem row32_get (l : List Nat) (i : Nat) (h : i < l.length) : (row32 l)[i]? = some (.int .u32 (l.getD i 0)) := by
  simp [row32, List.getD_eq_getElem?_getD, List.getElem?_eq_getElem h]
theorem row32_set (l : List Nat) (i x : Nat) : (row32 l).setIfInBounds i (.int .u32 x) = row32 (l.set i x) := by
  simp [row32, List.map_set]
def q4 (l p : List Nat) : W4 := ⟨l.getD (p.getD 0 0) 0, l.getD (p.getD 1 0) 0, l.getD (p.getD 2 0) 0, l.getD (p.getD 3 0) 0⟩
theorem q4_fit {l : List Nat} (h : U32s l) (p : List Nat) : (q4 l p).fit := ⟨h.getD _, h.getD _, h.getD _, h.getD _⟩
def W4.get (q : W4) : Nat → Nat
  | 0 => q.a
  | 1 => q.b
  | 2 => q.c
  | _ => q.d
theorem W4.get_fit {q : W4} (h : q.fit) : ∀ k, q.get k < 4294967296
  | 0 => h.1
  | 1 => h.2.1
  | 2 => h.2.2.1
  | _ + 3 => h.2.2.2
/-- The first k of four numbers laid at their places. -/
def laidUp (l p : List Nat) (q : W4) : Nat → List Nat
  | 0 => l
  | k + 1 => (laidUp l p q k).set (p.getD k 0) (q.get k)
theorem laidUp_length (l p : List Nat) (q : W4) : ∀ k, (laidUp l p q k).length = l.length
  | 0 => rfl
  | k + 1 => by rw [laidUp, List.length_set, laidUp_length l p q k]
theorem laidUp_fit {l : List Nat} (h : U32s l) (p : List Nat) {q : W4} (hq : q.fit) : ∀ k, U32s (laidUp l p q k)
  | 0 => h
  | k + 1 => (laidUp_fit h p hq k).set _ _ (q.get_fit hq k)
def chPlaces : List (List Nat) := [[0, 4, 8, 12], [1, 5, 9, 13], [2, 6, 10, 14], [3, 7, 11, 15], [0, 5, 10, 15], [1, 6, 11, 12], [2, 7, 8, 13], [3, 4, 9, 14]]
/-- The first k places stirred. -/
def stirUp (l : List Nat) : Nat → List Nat
  | 0 => l
  | k + 1 => laidUp (stirUp l k) (chPlaces.getD k []) ((q4 (stirUp l k) (chPlaces.getD k [])).upto 2) 4
theorem stirUp_length (l : List Nat) : ∀ k, (stirUp l k).length = l.length
  | 0 => rfl
  | k + 1 => by rw [stirUp, laidUp_length, stirUp_length l k]
theorem stirUp_fit {l : List Nat} (h : U32s l) : ∀ k, U32s (stirUp l k)
  | 0 => h
  | k + 1 => laidUp_fit (stirUp_fit h k) _ ((q4 _ _).upto_fit (q4_fit (stirUp_fit h k) _) 2) 4
def roundUp (l : List Nat) : Nat → List Nat
  | 0 => l
  | k + 1 => stirUp (roundUp l k) 8
theorem roundUp_length (l : List Nat) : ∀ k, (roundUp l k).length = l.length
  | 0 => rfl
  | k + 1 => by rw [roundUp, stirUp_length, roundUp_length l k]
theorem roundUp_fit {l : List Nat} (h : U32s l) : ∀ k, U32s (roundUp l k)
  | 0 => h
  | k + 1 => stirUp_fit (roundUp_fit h k) 8
/-- A block's numbers at first, the first k of them. -/
def beginUp (t : Bs) : Nat → List Nat
  | 0 => List.replicate 16 0
  | k + 1 => (beginUp t k).set k (fromLow ((t.drop (4 * k)).take 4) 4 % 4294967296)
theorem beginUp_length (t : Bs) : ∀ k, (beginUp t k).length = 16
  | 0 => rfl
  | k + 1 => by rw [beginUp, List.length_set, beginUp_length t k]
theorem beginUp_fit (t : Bs) : ∀ k, U32s (beginUp t k)
  | 0 => fun x hx => by rw [List.eq_of_mem_replicate hx]; decide
  | k + 1 => (beginUp_fit t k).set _ _ (Nat.mod_lt _ (by decide))
def sigmaB : Bs := [101, 120, 112, 97, 110, 100, 32, 51, 50, 45, 98, 121, 116, 101, 32, 107]
def beginT (key : Bs) (n : Nat) (nonce : Bs) : Bs := sigmaB ++ key ++ lowBs n 4 ++ nonce
def beginL (key : Bs) (n : Nat) (nonce : Bs) : List Nat := beginUp (beginT key n nonce) 16
/-- The first k of a block's numbers, as bytes. -/
def blkUp (s f : List Nat) : Nat → Bs
  | 0 => []
  | k + 1 => blkUp s f k ++ lowBs (add32 (s.getD k 0) (f.getD k 0)) 4
theorem blkUp_length (s f : List Nat) : ∀ k, (blkUp s f k).length = 4 * k
  | 0 => rfl
  | k + 1 => by rw [blkUp, List.length_append, blkUp_length s f k, lowB_length]; omega
def blkB (key : Bs) (n : Nat) (nonce : Bs) : Bs := blkUp (roundUp (beginL key n nonce) 10) (beginL key n nonce) 16
theorem blkB_length (key : Bs) (n : Nat) (nonce : Bs) : (blkB key n nonce).length = 64 := by unfold blkB; rw [blkUp_length]
end Go.Proofs.YtkenacggjffjnaaGreatDoor

/-! ChW -/
namespace Go.Proofs.YtkenacggjffjnaaGreatDoor
open Go.RowKit

section
variable {w0 w : World} {F0 : List Nat} {L : List Res} {v : Value}
abbrev placesV : Array Value := #[.int .i64 0, .int .i64 4, .int .i64 8, .int .i64 12, .int .i64 1, .int .i64 5, .int .i64 9, .int .i64 13, .int .i64 2, .int .i64 6, .int .i64 10, .int .i64 14, .int .i64 3, .int .i64 7, .int .i64 11, .int .i64 15, .int .i64 0, .int .i64 5, .int .i64 10, .int .i64 15, .int .i64 1, .int .i64 6, .int .i64 11, .int .i64 12, .int .i64 2, .int .i64 7, .int .i64 8, .int .i64 13, .int .i64 3, .int .i64 4, .int .i64 9, .int .i64 14]
def zeros32 : Array Value := (List.replicate 32 (Value.int .i64 0)).toArray
set_option maxRecDepth 100000 in
set_option maxHeartbeats 1000000 in
theorem chPlacesS (S : Sp w0 F0 w L) : Calls Tryz.prog 174 #[] w fun e w2 => e = .returned (.agg placesV) ∧ Sp w0 F0 w2 L := by
  have HS0 := Lib.hid (S.box zeros32 187)
  clear S
  go_enter Tryz.func174, Tryz.ntmps174
  go_upto_region 1 with (fail)
  have HS1 : Hid (Sp w0 F0 (w.alloc (.cells #[.int .i64 0, .int .i64 0, .int .i64 0, .int .i64 0, .int .i64 0, .int .i64 0, .int .i64 0, .int .i64 0, .int .i64 0, .int .i64 0, .int .i64 0, .int .i64 0, .int .i64 0, .int .i64 0, .int .i64 0, .int .i64 0, .int .i64 0, .int .i64 0, .int .i64 0, .int .i64 0, .int .i64 0, .int .i64 0, .int .i64 0, .int .i64 0, .int .i64 0, .int .i64 0, .int .i64 0, .int .i64 0, .int .i64 0, .int .i64 0, .int .i64 0, .int .i64 0] 187)) _) := HS0
  clear HS0
  generalize (w.alloc (.cells #[.int .i64 0, .int .i64 0, .int .i64 0, .int .i64 0, .int .i64 0, .int .i64 0, .int .i64 0, .int .i64 0, .int .i64 0, .int .i64 0, .int .i64 0, .int .i64 0, .int .i64 0, .int .i64 0, .int .i64 0, .int .i64 0, .int .i64 0, .int .i64 0, .int .i64 0, .int .i64 0, .int .i64 0, .int .i64 0, .int .i64 0, .int .i64 0, .int .i64 0, .int .i64 0, .int .i64 0, .int .i64 0, .int .i64 0, .int .i64 0, .int .i64 0, .int .i64 0] 187)) = w1 at *
  generalize w.heap.size = g at *
  have b1 := HS1.out.boxed
  have HP := Lib.hid (HS1.out.setRow placesV)
  clear HS1
  go_wp2_with (first
    | (refine wpList_built rfl 94 #[(0, .const (.int .i64 0)), (1, .const (.int .i64 4)), (2, .const (.int .i64 8)), (3, .const (.int .i64 12))] rfl #[.int .i64 0, .int .i64 4, .int .i64 8, .int .i64 12] (by kernel_rfl) ?_; simp only [Act.put, List.setIfInBounds_toArray, List.set_cons_zero, List.set_cons_succ])
    | (refine wpList_built rfl 94 #[(0, .const (.int .i64 1)), (1, .const (.int .i64 5)), (2, .const (.int .i64 9)), (3, .const (.int .i64 13))] rfl #[.int .i64 1, .int .i64 5, .int .i64 9, .int .i64 13] (by kernel_rfl) ?_; simp only [Act.put, List.setIfInBounds_toArray, List.set_cons_zero, List.set_cons_succ])
    | (refine wpList_built rfl 94 #[(0, .const (.int .i64 2)), (1, .const (.int .i64 6)), (2, .const (.int .i64 10)), (3, .const (.int .i64 14))] rfl #[.int .i64 2, .int .i64 6, .int .i64 10, .int .i64 14] (by kernel_rfl) ?_; simp only [Act.put, List.setIfInBounds_toArray, List.set_cons_zero, List.set_cons_succ])
    | (refine wpList_built rfl 94 #[(0, .const (.int .i64 3)), (1, .const (.int .i64 7)), (2, .const (.int .i64 11)), (3, .const (.int .i64 15))] rfl #[.int .i64 3, .int .i64 7, .int .i64 11, .int .i64 15] (by kernel_rfl) ?_; simp only [Act.put, List.setIfInBounds_toArray, List.set_cons_zero, List.set_cons_succ])
    | (refine wpList_built rfl 94 #[(0, .const (.int .i64 0)), (1, .const (.int .i64 5)), (2, .const (.int .i64 10)), (3, .const (.int .i64 15))] rfl #[.int .i64 0, .int .i64 5, .int .i64 10, .int .i64 15] (by kernel_rfl) ?_; simp only [Act.put, List.setIfInBounds_toArray, List.set_cons_zero, List.set_cons_succ])
    | (refine wpList_built rfl 94 #[(0, .const (.int .i64 1)), (1, .const (.int .i64 6)), (2, .const (.int .i64 11)), (3, .const (.int .i64 12))] rfl #[.int .i64 1, .int .i64 6, .int .i64 11, .int .i64 12] (by kernel_rfl) ?_; simp only [Act.put, List.setIfInBounds_toArray, List.set_cons_zero, List.set_cons_succ])
    | (refine wpList_built rfl 94 #[(0, .const (.int .i64 2)), (1, .const (.int .i64 7)), (2, .const (.int .i64 8)), (3, .const (.int .i64 13))] rfl #[.int .i64 2, .int .i64 7, .int .i64 8, .int .i64 13] (by kernel_rfl) ?_; simp only [Act.put, List.setIfInBounds_toArray, List.set_cons_zero, List.set_cons_succ])
    | (refine wpList_built rfl 94 #[(0, .const (.int .i64 3)), (1, .const (.int .i64 4)), (2, .const (.int .i64 9)), (3, .const (.int .i64 14))] rfl #[.int .i64 3, .int .i64 4, .int .i64 9, .int .i64 14] (by kernel_rfl) ?_; simp only [Act.put, List.setIfInBounds_toArray, List.set_cons_zero, List.set_cons_succ])
    | refine wpList_built rfl 187 _ rfl placesV (by kernel_rfl) ?_
    | refine wpList_store_row rfl 187 _ _ rfl g placesV rfl rfl 187 _ b1 (by kernel_rfl) (by kernel_rfl) (by kernel_rfl) ?_)
  refine bodyPost_ret (results_cell_row rfl _ _ g 187 placesV (0, 0) _ rfl HP.out.boxed Tryz.underlying187 rfl (by kernel_rfl)) rfl ?_
  exact ⟨rfl, HP.out.drop⟩
theorem chMay (key nonce : Bs) (hk : key.length = 32) (hn : nonce.length = 12) (w : World) : Calls Tryz.prog 157 #[.string ⟨key.toArray⟩, .string ⟨nonce.toArray⟩] w fun e w2 => e = .returned (.bool true) ∧ w2 = w := by
  have hk' : (key.length : Int) = 32 := by omega
  have hn' : (nonce.length : Int) = 12 := by omega
  go_enter Tryz.func157, Tryz.ntmps157
  go_wp2_with fail
  go_ret
  exact ⟨rfl, rfl⟩
theorem Sp.at32 {b : Nat} {l : List Nat} {T : TypeId} (S : Sp w0 F0 w (boxR b (row32 l) T :: L)) {i : Nat} (h : i < l.length) : w.cell? ⟨b, i, none⟩ = some (.int .u32 (l.getD i 0)) := by
  rw [S.cell, row32_get l i h]
theorem Sp.put32 {b : Nat} {l : List Nat} {T : TypeId} (S : Sp w0 F0 w (boxR b (row32 l) T :: L)) (i x : Nat) (l2 : List Nat) (he : l.set i x = l2) : Sp w0 F0 (w.setCell ⟨b, i, none⟩ (.int .u32 x)) (boxR b (row32 l2) T :: L) := by
  have h := S.set (o := i) (.int .u32 x)
  rw [row32_set, he] at h
  exact h
theorem row32_size (l : List Nat) : (row32 l).size = l.length := by simp [row32]
theorem row32_one (l : List Nat) : (row32 l).all (·.oneCell') = true := by
  rw [Array.all_eq_true_iff_forall_mem]
  intro x hx
  simp only [row32, List.mem_toArray, List.mem_map] at hx
  obtain ⟨n, _, rfl⟩ := hx
  rfl
theorem info16 : (Tryz.prog.info? 185).map (·.size) = some 16 := by kernel_rfl
theorem info16_of {l : List Nat} (h : l.length = 16) : (Tryz.prog.info? 185).map (·.size) = some (row32 l).size := info16.trans (by rw [row32_size, h])
theorem cut_mid (s : Bs) (a b : Nat) : (ByteArray.mk s.toArray).extract a b = ⟨((s.take b).drop a).toArray⟩ := by
  apply ByteArray.ext
  simp [ByteArray.data_extract, List.drop_take]
theorem low32 (n : Nat) : ((n : Int) % 4294967296) = ((n % 4294967296 : Nat) : Int) := by omega
theorem lowWord (n : Nat) : IntKind.u32.wrap (n : Int) = ((n % 4294967296 : Nat) : Int) := by rw [IntKind.wrap_u32]; omega
theorem octFromLowS (s : Bs) (h : s.length ≤ 8) (S : Sp w0 F0 w L) : Calls Tryz.prog 190 #[.string ⟨s.toArray⟩] w fun e w2 => e = .returned (.tuple #[.int .u64 (fromLow s s.length), .int .i64 0]) ∧ Sp w0 F0 w2 L := by
  refine (octFromLow s h w).mono ?_
  rintro e w2 ⟨he, q, rfl⟩
  exact ⟨he, S.drewN q⟩
set_option maxRecDepth 100000 in
set_option maxHeartbeats 2000000 in
theorem chBegin (key nonce : Bs) (n : Nat) (hk : key.length = 32) (hz : nonce.length = 12) (hn : n < 4294967296) (S : Sp w0 F0 w L) : Calls Tryz.prog 173 #[.string ⟨key.toArray⟩, .int .u32 n, .string ⟨nonce.toArray⟩] w fun e w2 => e = .returned (.agg (row32 (beginL key n nonce))) ∧ Sp w0 F0 w2 L := by
  have HK := Lib.hid hk
  have HZ := Lib.hid hz
  have HNN := Lib.hid hn
  have HS0 : Hid (Sp w0 F0 (w.alloc (.cells #[.int .u32 0, .int .u32 0, .int .u32 0, .int .u32 0, .int .u32 0, .int .u32 0, .int .u32 0, .int .u32 0, .int .u32 0, .int .u32 0, .int .u32 0, .int .u32 0, .int .u32 0, .int .u32 0, .int .u32 0, .int .u32 0] 185)) (boxR w.heap.size (row32 (List.replicate 16 0)) 185 :: L)) := Lib.hid (S.box (row32 (List.replicate 16 0)) 185)
  have hadd2 := add_str (sigmaB ++ key) (lowBs n 4) (by rw [lowB_length]; simp [maxLen, sigmaB]; omega)
  have hadd3 := add_str (sigmaB ++ key ++ lowBs n 4) nonce (by simp [maxLen, sigmaB, lowB_length]; omega)
  have hadd1 : ∀ W, (Op.stringOp .add ⟨#[101, 120, 112, 97, 110, 100, 32, 51, 50, 45, 98, 121, 116, 101, 32, 107]⟩ ⟨key.toArray⟩).run Tryz.prog W = .ok (.string ⟨(sigmaB ++ key).toArray⟩) W := add_str sigmaB key (by simp [maxLen, sigmaB]; omega)
  have HBT : Hid (sigmaB ++ key ++ lowBs n 4 ++ nonce = beginT key n nonce) := rfl
  rw [HBT.out] at hadd3
  have HTL : Hid ((beginT key n nonce).length = 64) := by unfold beginT Hid; simp [sigmaB, lowB_length]; omega
  have HBL : Hid (beginL key n nonce = beginUp (beginT key n nonce) 16) := rfl
  have HLO := Lib.hid (octLow_any n 4)
  have hw : IntKind.u64.wrap (n : Int) = n := by rw [IntKind.wrap_u64]; omega
  clear S HBT hk hz hn
  generalize beginT key n nonce = t at *
  generalize beginL key n nonce = bl at *
  generalize sigmaB ++ key ++ lowBs n 4 = t3 at *
  generalize sigmaB ++ key = t2 at *
  go_enter Tryz.func173, Tryz.ntmps173
  go_wp2_with fail
  refine (Calls.spA (HLO.out _ (by decide)) HS0.out).mono ?_
  rintro e w2 ⟨rfl, S⟩
  have HS1 := Lib.hid S
  generalize w.heap.size = g0 at *
  have HS2 : Hid (Sp w0 F0 (w2.alloc (.cells #[.int .u32 0, .int .u32 0, .int .u32 0, .int .u32 0, .int .u32 0, .int .u32 0, .int .u32 0, .int .u32 0, .int .u32 0, .int .u32 0, .int .u32 0, .int .u32 0, .int .u32 0, .int .u32 0, .int .u32 0, .int .u32 0] 185)) (boxR w2.heap.size (row32 (List.replicate 16 0)) 185 :: boxR g0 (row32 (List.replicate 16 0)) 185 :: L)) := Lib.hid (S.box (row32 (List.replicate 16 0)) 185)
  clear S HS0 HS1 HLO
  go_wp2_with fail
  generalize (w2.alloc _) = w3 at *
  generalize w2.heap.size = g1 at *
  clear hadd1 hadd2 hadd3 hw
  go_loopw [20] (fun i wr => ∃ k : Nat, i = .int .i64 k ∧ k ≤ 16 ∧ Sp w0 F0 wr (boxR g1 (row32 (beginUp t k)) 185 :: boxR g0 (row32 (List.replicate 16 0)) 185 :: L)) (fun i _ => 16 - (intOf i).toNat)
  case atStart => exact ⟨0, rfl, Nat.zero_le _, HS2.out⟩
  case round =>
    clear HS2
    obtain ⟨k, rfl, hk, S⟩ := hrel
    have HS := Lib.hid S
    have HLK := Lib.hid (beginUp_length t k)
    clear S
    by_cases hlt : k < 16
    · have hlt' : (k : Int) < 16 := by omega
      have hcut := cut_mid t (4 * k) (4 * (k + 1))
      have HD : Hid ((t.take (4 * (k + 1))).drop (4 * k) = (t.drop (4 * k)).take 4) := by unfold Hid; rw [List.drop_take, show 4 * (k + 1) - 4 * k = 4 by omega]
      rw [HD.out] at hcut
      have HDL : Hid (((t.drop (4 * k)).take 4).length = 4) := by unfold Hid; rw [List.length_take, List.length_drop, HTL.out]; omega
      have HF := Lib.hid (octFromLowS ((t.drop (4 * k)).take 4) (by rw [HDL.out]; decide) HS.out)
      rw [HDL.out] at HF
      have HU : Hid ((beginUp t k).set k (fromLow ((t.drop (4 * k)).take 4) 4 % 4294967296) = beginUp t (k + 1)) := rfl
      have hlen : (t.length : Int) = 64 := by have := HTL.out; omega
      clear HD HDL
      generalize (t.drop (4 * k)).take 4 = tk at *
      generalize fromLow tk 4 = fl at *
      go_wp2_with fail
      refine HF.out.mono ?_
      rintro e w4 ⟨rfl, S⟩
      have fk := S.free k
      have ck := S.at32 (i := k) (by rw [HLK.out]; exact hlt)
      have HP := S.put32 k (fl % 4294967296) _ HU.out
      rw [← lowWord] at HP
      have HP := Lib.hid HP
      clear S HS HF hcut HU
      go_wp2_with fail
      exact ⟨⟨k + 1, by go_num, by omega, HP.out⟩, by simp [intOf]; omega⟩
    · obtain rfl : k = 16 := by omega
      have HP := HS.out.pull1.setRow (row32 (beginUp t 16))
      have bx := HS.out.boxed
      have b2 := HS.out.pull1.boxed
      rw [← HBL.out] at HP bx HLK
      have HP := Lib.hid HP
      clear HBL
      go_wp2_with (first
        | refine wpList_load_row rfl 185 _ rfl g1 rfl 185 (row32 bl) (0, 0) _ bx Tryz.underlying185 rfl (info16_of HLK.out) ?_
        | refine wpList_store_row rfl 185 _ _ rfl g0 (row32 bl) rfl rfl 185 _ b2 (info16_of HLK.out) (by rw [row32_size, row32_size, HLK.out]; rfl) (row32_one _) ?_)
      refine bodyPost_ret (results_cell_row rfl _ _ g0 185 (row32 bl) (0, 0) _ rfl HP.out.boxed Tryz.underlying185 rfl (info16_of HLK.out)) rfl ?_
      exact ⟨rfl, HP.out.drop.drop⟩
end
end Go.Proofs.YtkenacggjffjnaaGreatDoor
