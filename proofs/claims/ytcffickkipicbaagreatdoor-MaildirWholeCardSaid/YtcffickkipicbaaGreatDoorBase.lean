/- What the other texts of this seat lean on: worlds that differ in some blocks alone, Go's strings as lists of bytes, and maps from strings to strings as lists of pairs. No condition. -/
import Derived.WalkKit
import Derived.WalkLawsBesides
import Derived.WalkSpells
import Derived.Maps.StringElems
import Derived.Maps.Ext
import Derived.Lib.Hide
import Derived.Deep.Draws
set_option linter.unusedSimpArgs false
set_option linter.unusedVariables false
set_option linter.unnecessarySimpa false
namespace Go.Proofs.YtcffickkipicbaaGreatDoor
open Go.RowKit Go.Maps
open Go.WideMaps (keyOf_string_mk string_of_keyOf)

abbrev Bs := List UInt8

/-- w2 is w but for the blocks of F and new ones. -/
structure Ext (F : List Nat) (w w2 : World) : Prop where
  os : w2.os = w.os
  tape : w2.tape = w.tape
  output : w2.output = w.output
  size : w.heap.size ≤ w2.heap.size
  block : ∀ k, k < w.heap.size → k ∉ F → w2.heap[k]? = w.heap[k]?

theorem Ext.refl (F : List Nat) (w : World) : Ext F w w := ⟨rfl, rfl, rfl, Nat.le_refl _, fun _ _ _ => rfl⟩
theorem Ext.trans {F G : List Nat} {a b c : World} (h : Ext F a b) (k : Ext G b c) (hG : ∀ x ∈ G, x ∈ F ∨ a.heap.size ≤ x) : Ext F a c :=
  ⟨k.os.trans h.os, k.tape.trans h.tape, k.output.trans h.output, Nat.le_trans h.size k.size, fun i hi hF =>
    (k.block i (Nat.lt_of_lt_of_le hi h.size) (fun hg => (hG i hg).elim (fun h1 => hF h1) (fun h1 => by omega))).trans (h.block i hi hF)⟩
theorem Ext.mono {F G : List Nat} {a b : World} (h : Ext F a b) (hG : ∀ x ∈ F, x ∈ G ∨ a.heap.size ≤ x) : Ext G a b :=
  (Ext.refl G a).trans h hG
theorem Ext.drew {F : List Nat} {a w : World} (h : Ext F a w) : Ext F a w.drew := ⟨h.os, h.tape, h.output, h.size, h.block⟩
theorem Ext.drewN {F : List Nat} {a w : World} (h : Ext F a w) (n : Nat) : Ext F a (w.drewN n) := ⟨h.os, h.tape, h.output, h.size, h.block⟩
theorem Ext.alloc {F : List Nat} {a w : World} (h : Ext F a w) (o : Obj) : Ext F a (w.alloc o) :=
  h.trans (G := []) ⟨rfl, rfl, rfl, by simp, fun k hk _ => Below.heap_alloc _ _ _ hk⟩ (by simp)
theorem Ext.setCell {F : List Nat} {a w : World} (h : Ext F a w) {p : Addr} (hp : p.block ∈ F ∨ a.heap.size ≤ p.block) (u : Value) : Ext F a (w.setCell p u) :=
  h.trans (G := [p.block]) ⟨rfl, rfl, rfl, by simp [World.setCell], fun k _ hk => Below.heap_setCell _ _ _ _ (by simpa using hk)⟩ (by simpa using hp)
theorem Ext.grown {F : List Nat} {a w w2 : World} {row : Option Nat} (h : Ext F a w) (hg : w.grownBy w2 row) (hr : ∀ k, row = some k → k ∈ F ∨ a.heap.size ≤ k) : Ext F a w2 :=
  h.trans (G := row.toList) ⟨hg.os, hg.tape, hg.output, hg.size, fun k hk hn => hg.block k hk (fun e => hn (by simp [← e]))⟩ (by intro x hx; exact hr x (by simpa using hx))
theorem Ext.grownBy {F : List Nat} {w w2 : World} (h : Ext F w w2) {row : Option Nat} (hF : ∀ x ∈ F, some x = row) : w.grownBy w2 row :=
  ⟨h.os, h.tape, h.output, h.size, fun k hk hn => h.block k hk (fun hx => hn (hF k hx))⟩
theorem Ext.below {F : List Nat} {a w : World} (h : Ext F a w) {B : Nat} (hB : B ≤ a.heap.size) (hF : ∀ x ∈ F, B ≤ x) : Below B a w :=
  ⟨h.os, h.tape, h.output, h.size, fun k hk => h.block k (by omega) (fun hx => by have := hF k hx; omega)⟩
theorem Ext.of_below {a w : World} (h : Below a.heap.size a w) : Ext [] a w := ⟨h.os, h.tape, h.output, h.size, fun k hk _ => h.block k hk⟩
theorem Ext.cell {F : List Nat} {a w : World} (h : Ext F a w) {p : Addr} {v : Value} (hc : a.cell? p = some v) (hp : p.block ∉ F) : w.cell? p = some v :=
  (World.cell?_of_block (h.block p.block (World.block_lt_of_cell? a p hc) hp)).trans hc
theorem Ext.heap {F : List Nat} {a w : World} (h : Ext F a w) {b : Nat} {o : Obj} (hb : a.heap[b]? = some o) (hp : b ∉ F) : w.heap[b]? = some o :=
  (h.block b (Array.getElem?_eq_some_iff.1 hb).1 hp).trans hb
theorem heap_lt {w : World} {b : Nat} {o : Obj} (h : w.heap[b]? = some o) : b < w.heap.size := (Array.getElem?_eq_some_iff.1 h).1

/-- From w to w2 the blocks F alone were written, and what lay in F lies now in F2: blocks of F and new ones. -/
structure Moved (F : List Nat) (w w2 : World) (F2 : List Nat) : Prop where
  ext : Ext F w w2
  new : ∀ x ∈ F2, x ∈ F ∨ w.heap.size ≤ x
theorem Moved.refl (F : List Nat) (w : World) : Moved F w w F := ⟨Ext.refl F w, fun _ h => .inl h⟩
theorem Moved.trans {F F1 F2 : List Nat} {w w1 w2 : World} (h : Moved F w w1 F1) (k : Moved F1 w1 w2 F2) : Moved F w w2 F2 :=
  ⟨h.ext.trans k.ext h.new, fun x hx => (k.new x hx).elim (fun h1 => h.new x h1) (fun h1 => .inr (by have := h.ext.size; omega))⟩
theorem Moved.of_ext {F : List Nat} {w w2 : World} (h : Ext F w w2) : Moved F w w2 F := ⟨h, fun _ h => .inl h⟩
theorem Moved.of_new {F : List Nat} {w w2 : World} (h : Ext [] w w2) : Moved F w w2 F := ⟨h.mono (by simp), fun _ h => .inl h⟩

theorem ret_bool {a b : Bool} (h : a = b) : Ending.returned (.bool a) = Ending.returned (.bool b) := by rw [h]
theorem ret_int {k : IntKind} {a b : Int} (h : a = b) : Ending.returned (.int k a) = Ending.returned (.int k b) := by rw [h]
theorem ret_str {a b : Bs} (h : a = b) : Ending.returned (.string ⟨a.toArray⟩) = Ending.returned (.string ⟨b.toArray⟩) := by rw [h]

/-- A row of cells that a slice value holds. -/
theorem row_ext {F : List Nat} {w w2 : World} {base : Nat} {e : TypeId} {size : Nat} {v : Value} {n : Nat} {xs : List Value} (h : w.ownsRow base e size v n xs) (hx : Ext F w w2) (hv : ∀ k, v.ownBlock = some k → k ∉ F) : w2.ownsRow base e size v n xs := by
  refine ⟨h.1, ?_⟩
  rcases h.2 with hn | ⟨g, cap, cur, rfl, hb, hgg, rest⟩
  · exact .inl hn
  · exact .inr ⟨g, cap, cur, rfl, hb, hx.heap hgg (hv g rfl), rest⟩

/-- An append whose run is known ahead, inside a region that draws its order, and in the text's order. -/
theorem step_append_run {P : Program} {w w1 : World} {ops : Array Oper} {o : Oper} {a : Act} {K : Act → World → Prop} {Q : Exit → Act → World → Prop} {E : Prop} {s x : Operand} {t : TypeId} {v u r : Value} (hgd : o.guard = none)
    (ho : o.op = .call { callee := .builtin .append, args := #[s, x], argTypes := #[t, t] }) (hs : a.eval s = v) (hx : a.eval x = u)
    (hr : (Builtin.append_ #[t, t] o.type #[v, u]).run P w = .ok r w1) (h : K (a.put o.dst r) w1) : if Region.wanted o (yielded ops a.tmps) = true then Oper.wp P o a w K Q else E := by
  have hw : Region.wanted o (yielded ops a.tmps) = true := by simp [Region.wanted, hgd]
  rw [if_pos hw]
  unfold Oper.wp execOp
  simp only [ho, resolve, invoke, builtin, Sem.run_bind, Sem.run_pure, Result.andThen_ok, List.map_toArray, List.map_cons, List.map_nil, hs, hx, hr]
  exact h
theorem wpList_append_run {P : Program} {w w1 : World} {ops : Array Oper} {rest : List Oper} {o : Oper} {a : Act} {Q : Exit → Act → World → Prop} {s x : Operand} {t : TypeId} {v u r : Value} (hgd : o.guard = none)
    (ho : o.op = .call { callee := .builtin .append, args := #[s, x], argTypes := #[t, t] }) (hs : a.eval s = v) (hx : a.eval x = u)
    (hr : (Builtin.append_ #[t, t] o.type #[v, u]).run P w = .ok r w1) (h : wpList P ops Q rest (a.put o.dst r) w1) : wpList P ops Q (o :: rest) a w := by
  refine wpList_plain hgd fun K hK => ?_
  unfold Oper.wp execOp
  simp only [ho, resolve, invoke, builtin, Sem.run_bind, Sem.run_pure, Result.andThen_ok, List.map_toArray, List.map_cons, List.map_nil, hs, hx, hr]
  exact hK _ _ h

/-! ### maps from strings to strings -/
abbrev Fs := List (Bs × Bs)
def Fs.ins (x : Bs × Bs) : Fs → Fs
  | [] => [x]
  | y :: r => if bytesBefore x.1 y.1 then x :: y :: r else y :: Fs.ins x r
def Fs.del (F : Fs) (k : Bs) : Fs := F.filter fun p => !(p.1 == k)
def Fs.put (F : Fs) (k v : Bs) : Fs := Fs.ins (k, v) (F.del k)
def Fs.get (F : Fs) (k : Bs) : Option Bs := (F.find? fun p => p.1 == k).map (·.2)
def Fs.has (F : Fs) (k : Bs) : Bool := F.any fun p => p.1 == k

def pairD (p : Bs × Bs) : Lit × DataW Unit := (.string p.1, .lit (.string p.2))
def Fs.data (F : Fs) : DataW Unit := .map (F.map pairD)

theorem Fs.data_ins (x : Bs × Bs) : ∀ F : Fs, (Fs.ins x F).map pairD = DataW.insert (pairD x) (F.map pairD)
  | [] => rfl
  | y :: r => by
    simp only [Fs.ins, List.map_cons, DataW.insert]
    have : (pairD x).1.before (pairD y).1 = bytesBefore x.1 y.1 := rfl
    rw [this]
    split
    · rfl
    · rw [List.map_cons, Fs.data_ins x r]
theorem Fs.data_del (F : Fs) (k : Bs) : F.data.del (.string k) = (F.del k).data := by
  simp only [Fs.data, DataW.del, Fs.del, List.filter_map]
  rfl
theorem Fs.data_put (F : Fs) (k v : Bs) : F.data.put (.string k) (.lit (.string v)) = (F.put k v).data := by
  simp only [Fs.put, Fs.data, DataW.put, Fs.data_ins]
  congr 2
  simp only [Fs.del, List.filter_map]
  rfl
theorem Fs.data_has (F : Fs) (k : Bs) : Maps.has F.data (.string k) = F.has k := by
  simp only [Fs.data, Maps.has, Fs.has, List.any_map]
  rfl
theorem Fs.data_size (F : Fs) : Maps.size F.data = F.length := by simp [Fs.data, Maps.size]
theorem Fs.data_at (F : Fs) (k : Bs) : F.data.atKey (.string k) (.lit (.string [])) = .lit (.string ((F.get k).getD [])) := by
  simp only [Fs.data, DataW.atKey, Fs.get, List.find?_map]
  have e : ((fun p : Lit × DataW Unit => p.1.sameKey (Lit.string k)) ∘ pairD) = fun p => p.1 == k := rfl
  rw [e]
  cases F.find? fun p => p.1 == k <;> rfl
theorem Fs.has_eq (F : Fs) (k : Bs) : F.has k = (F.get k).isSome := by
  unfold Fs.has Fs.get
  induction F with
  | nil => rfl
  | cons y r ih =>
    by_cases h : (y.1 == k) = true
    · simp [h]
    · simp [h, ih]

/-- Block b of w is a map that holds F. (t, k, e: the types.) -/
def MapAt (P : Program) (k e : TypeId) (w : World) (b : Nat) (F : Fs) : Prop := w.ownsMap P k (plainElem P e) b F.length F.data

section
variable {P : Program} {t k e : TypeId} {w w2 : World} {b : Nat} {F : Fs}
theorem owns_tight {n : Nat} (h : w.ownsMap P k (plainElem P e) b n F.data) : MapAt P k e w b F := by
  obtain ⟨es, clock, hb, Ft, hs, hD⟩ := h
  refine ⟨es, clock, hb, Ft, ?_, hD⟩
  have h1 := congrArg Maps.size hD
  rw [Fs.data_size] at h1
  simp only [Maps.size, length_sorted, List.length_map, Array.length_toList] at h1
  omega
theorem MapAt.lt (h : MapAt P k e w b F) : b < w.heap.size := World.ownsMap.lt h
theorem MapAt.ext {G : List Nat} (h : MapAt P k e w b F) (hx : Ext G w w2) (hb : b ∉ G) : MapAt P k e w2 b F := by
  obtain ⟨es, clock, hh, rest⟩ := h
  exact ⟨es, clock, hx.heap hh hb, rest⟩
theorem MapAt.made (w : World) : MapAt P k e (w.alloc (.map #[] 0)) w.heap.size [] := World.ownsMap_made w P k (plainElem P e)
theorem MapAt.sorted (h : MapAt P k e w b F) (hk : P.underlying k = some .string) : F.Pairwise fun p q => bytesBefore p.1 q.1 = true := by
  obtain ⟨es, he, hp, _⟩ := World.ownsMap.canon h (string_keyed hk)
  injection he with he
  rw [← he, List.pairwise_map] at hp
  exact hp
theorem MapAt.lens (h : MapAt P k e w b F) (hk : P.underlying k = some .string) (he : P.underlying e = some .string) : ∀ p ∈ F, p.1.length ≤ maxLen ∧ p.2.length ≤ maxLen := by
  obtain ⟨es, clock, hb, Ft, hs, hD⟩ := h
  intro p hp
  injection hD with hD
  have h1 : pairD p ∈ F.map pairD := List.mem_map_of_mem hp
  rw [hD, mem_sorted] at h1
  obtain ⟨x, hx, hxe⟩ := List.mem_map.1 h1
  obtain ⟨y, hy⟩ := Ft.reads x hx
  rw [WideElems.rg_of hy] at hxe
  obtain ⟨z, hz, hyz⟩ := WideElems.rd_val hy
  have hkey := WideElems.rd_key hy
  rw [hxe] at hkey hyz
  obtain ⟨s1, _, hs1, hw1⟩ := string_of_keyOf hk hkey
  obtain ⟨s2, _, rfl, hw2⟩ := plainElem_string_inv he hz
  simp only [pairD, Lit.string.injEq, DataW.lit.injEq] at hs1 hyz
  rw [hs1, hyz]
  exact ⟨by simpa using hw1, by simpa using hw2⟩
theorem MapAt.look (h : MapAt P k e w b F) (hk : P.underlying k = some .string) (he : P.underlying e = some .string) (ht : P.underlying t = some (.map k e)) (hz : (zeroValue e).run P w = .ok (.string ⟨#[]⟩) w)
    (x : Bs) (hx : x.length ≤ maxLen) : (Instr.lookup t (.map (some b)) (.string ⟨x.toArray⟩) false).run P w = .ok (.string ⟨((F.get x).getD []).toArray⟩) w := by
  obtain ⟨v, ps, hrun, hv⟩ := World.ownsMap.lookup h (string_keyed hk) ht hz (plainElem_string he (s := ⟨#[]⟩) (Nat.zero_le _)) (keyOf_string_mk hk (s := ⟨x.toArray⟩) hx)
  have hv := hv.trans (by rw [show (ByteArray.mk #[]).data.toList = [] from rfl, show (ByteArray.mk x.toArray).data.toList = x from rfl, Fs.data_at])
  obtain ⟨s, rfl, hs, hw⟩ := plainElem_string_inv he hv
  simp only [Prod.mk.injEq, DataW.lit.injEq, Lit.string.injEq] at hs
  rw [hrun, hs.1]
theorem MapAt.lookOk (h : MapAt P k e w b F) (hk : P.underlying k = some .string) (he : P.underlying e = some .string) (ht : P.underlying t = some (.map k e)) (hz : (zeroValue e).run P w = .ok (.string ⟨#[]⟩) w)
    (x : Bs) (hx : x.length ≤ maxLen) : (Instr.lookup t (.map (some b)) (.string ⟨x.toArray⟩) true).run P w = .ok (.tuple #[.string ⟨((F.get x).getD []).toArray⟩, .bool (F.has x)]) w := by
  obtain ⟨v, ps, hrun, hv⟩ := World.ownsMap.look_ok h (string_keyed hk) ht hz (plainElem_string he (s := ⟨#[]⟩) (Nat.zero_le _)) (keyOf_string_mk hk (s := ⟨x.toArray⟩) hx)
  have hv := hv.trans (by rw [show (ByteArray.mk #[]).data.toList = [] from rfl, show (ByteArray.mk x.toArray).data.toList = x from rfl, Fs.data_at])
  obtain ⟨s, rfl, hs, hw⟩ := plainElem_string_inv he hv
  simp only [Prod.mk.injEq, DataW.lit.injEq, Lit.string.injEq] at hs
  rw [show (ByteArray.mk x.toArray).data.toList = x from rfl, Fs.data_has] at hrun
  rw [hrun, hs.1]
theorem MapAt.len (h : MapAt P k e w b F) (ht : P.underlying t = some (.map k e)) (ty : TypeId) : (Builtin.len_ #[t] ty #[.map (some b)]).run P w = .ok (.int .i64 F.length) w := by
  rw [World.ownsMap.len h ht ty, Fs.data_size]
theorem turned_ext (h : w.mapTurned w2 b) : Ext [b] w w2 ∧ w2.heap.size = w.heap.size := by
  have g := h.grown
  refine ⟨⟨g.os, g.tape, g.output, g.size, fun i hi hn => g.block i hi (fun e => hn (by simpa using e))⟩, ?_⟩
  obtain ⟨es, c, es2, c2, hb, rfl⟩ := h
  simp [ChangeMaps.setBlock]
theorem MapAt.update (h : MapAt P k e w b F) (hk : P.underlying k = some .string) (he : P.underlying e = some .string) (ht : P.underlying t = some (.map k e)) (hn : F.length < maxLen)
    (x y : Bs) (hx : x.length ≤ maxLen) (hy : y.length ≤ maxLen) :
    ∃ w2, (Instr.mapUpdate t (.map (some b)) (.string ⟨x.toArray⟩) (.string ⟨y.toArray⟩)).run P w = .ok () w2 ∧ MapAt P k e w2 b (F.put x y) ∧ Ext [b] w w2 ∧ w2.heap.size = w.heap.size := by
  obtain ⟨w2, hrun, h2, ht2⟩ := World.ownsMap.store h (string_keyed hk) ht hn (keyOf_string_mk hk (s := ⟨x.toArray⟩) hx) (plainElem_string he (s := ⟨y.toArray⟩) hy)
  simp only [Fs.data_put] at h2
  exact ⟨w2, hrun, owns_tight h2, turned_ext ht2⟩
theorem MapAt.delete (h : MapAt P k e w b F) (hk : P.underlying k = some .string) (ht : P.underlying t = some (.map k e)) (x : Bs) (hx : x.length ≤ maxLen) (ty : TypeId) :
    ∃ w2, (Builtin.delete_ #[t, k] ty #[.map (some b), .string ⟨x.toArray⟩]).run P w = .ok (.tuple #[]) w2 ∧ MapAt P k e w2 b (F.del x) ∧ Ext [b] w w2 ∧ w2.heap.size = w.heap.size := by
  obtain ⟨w2, hrun, h2, ht2⟩ := World.ownsMap.drop h (string_keyed hk) ht (keyOf_string_mk hk (s := ⟨x.toArray⟩) hx) ty
  simp only [Fs.data_del] at h2
  exact ⟨w2, hrun, owns_tight h2, turned_ext ht2⟩
theorem MapAt.clone (h : MapAt P k e w b F) : ∃ es clock, w.heap[b]? = some (.map es clock) ∧ MapAt P k e (w.alloc (.map es clock)) w.heap.size F := by
  obtain ⟨es, clock, hb, rest⟩ := h
  exact ⟨es, clock, hb, es, clock, (MapKept.heap_alloc w _).1, rest⟩
end
end Go.Proofs.YtcffickkipicbaaGreatDoor
