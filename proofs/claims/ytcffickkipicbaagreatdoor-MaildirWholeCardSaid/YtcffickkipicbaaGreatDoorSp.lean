/- Memory as a list of parts that lie apart: what a world holds, each part in blocks of its own, and how calls move it. No condition. -/
import Derived.Test.YtcffickkipicbaaGreatDoorBase
set_option linter.unusedSimpArgs false
set_option linter.unusedVariables false
set_option linter.unnecessarySimpa false
namespace Go.Proofs.YtcffickkipicbaaGreatDoor
open Go.RowKit

/-- A part of memory: what it says of the blocks that it lies in and of a world. -/
structure Res where
  holds : List Nat → World → Prop
  keeps : ∀ {F : List Nat} {w w2 : World} {G : List Nat}, holds F w → Ext G w w2 → (∀ x ∈ F, x ∉ G) → holds F w2
  inside : ∀ {F : List Nat} {w : World}, holds F w → ∀ x ∈ F, x < w.heap.size

/-- From w0 to w the blocks F0 alone were written (and new ones); w holds the parts M, which lie apart, in blocks of F0 and new ones. -/
structure SpF (w0 : World) (F0 : List Nat) (w : World) (M : List (Res × List Nat)) : Prop where
  ext : Ext F0 w0 w
  all : ∀ r ∈ M, r.1.holds r.2 w
  apart : M.Pairwise fun r s => ∀ x ∈ r.2, x ∉ s.2
  own : ∀ r ∈ M, ∀ x ∈ r.2, x ∈ F0 ∨ w0.heap.size ≤ x
def Sp (w0 : World) (F0 : List Nat) (w : World) (L : List Res) : Prop := ∃ M : List (Res × List Nat), M.map (·.1) = L ∧ SpF w0 F0 w M

section
variable {w0 w w1 w2 : World} {F0 F G : List Nat} {M N : List (Res × List Nat)} {L : List Res} {r s t u v : Res}
theorem SpF.ext0 (h : SpF w0 F0 w M) (hx : Ext [] w w2) : SpF w0 F0 w2 M :=
  ⟨h.ext.trans hx (by simp), fun r hr => r.1.keeps (h.all r hr) hx (by simp), h.apart, h.own⟩
theorem SpF.perm (h : SpF w0 F0 w M) (hp : M.Perm N) : SpF w0 F0 w N :=
  ⟨h.ext, fun r hr => h.all r (hp.symm.subset hr), (hp.pairwise_iff (fun {_ _} hab x hb ha => hab x ha hb)).1 h.apart, fun r hr => h.own r (hp.symm.subset hr)⟩
theorem SpF.moved (h : SpF w0 F0 w ((r, F) :: M)) (m : Moved F w w2 G) (hs : s.holds G w2) : SpF w0 F0 w2 ((s, G) :: M) := by
  have hp := List.pairwise_cons.1 h.apart
  have hown := h.own (r, F) (by simp)
  have hdis : ∀ q ∈ M, ∀ x ∈ q.2, x ∉ F := fun q hq x hx hr => hp.1 q hq x hr hx
  refine ⟨h.ext.trans m.ext hown, ?_, ?_, ?_⟩
  · intro q hq
    rcases List.mem_cons.1 hq with rfl | hq
    · exact hs
    · exact q.1.keeps (h.all q (by simp [hq])) m.ext (hdis q hq)
  · rw [List.pairwise_cons]
    refine ⟨fun q hq x hx hxq => ?_, hp.2⟩
    rcases m.new x hx with h1 | h1
    · exact hp.1 q hq x h1 hxq
    · have := q.1.inside (h.all q (by simp [hq])) x hxq
      omega
  · intro q hq x hx
    rcases List.mem_cons.1 hq with rfl | hq
    · rcases m.new x hx with h1 | h1
      · exact hown x h1
      · have := h.ext.size
        exact .inr (by omega)
    · exact h.own q (by simp [hq]) x hx
theorem SpF.gain (h : SpF w0 F0 w M) (hx : Ext [] w w2) (hs : s.holds G w2) (hn : ∀ x ∈ G, w.heap.size ≤ x) : SpF w0 F0 w2 ((s, G) :: M) := by
  have h2 := h.ext0 hx
  refine ⟨h2.ext, ?_, ?_, ?_⟩
  · intro q hq
    rcases List.mem_cons.1 hq with rfl | hq
    · exact hs
    · exact h2.all q hq
  · rw [List.pairwise_cons]
    exact ⟨fun q hq x hx hxq => by have := hn x hx; have := q.1.inside (h.all q hq) x hxq; omega, h.apart⟩
  · intro q hq x hx
    rcases List.mem_cons.1 hq with rfl | hq
    · have := hn x hx
      have := h.ext.size
      exact .inr (by omega)
    · exact h.own q hq x hx

theorem Sp.nil (w : World) (F0 : List Nat) : Sp w F0 w [] := ⟨[], rfl, Ext.refl _ _, by simp, List.Pairwise.nil, by simp⟩
theorem Sp.one (h : r.holds F w) : Sp w F w [r] := ⟨[(r, F)], rfl, Ext.refl _ _, by simpa using h, by simp, by simpa using fun x hx => .inl hx⟩
theorem Sp.ext0 (h : Sp w0 F0 w L) (hx : Ext [] w w2) : Sp w0 F0 w2 L := by
  obtain ⟨M, hM, h⟩ := h
  exact ⟨M, hM, h.ext0 hx⟩
theorem Sp.ext (h : Sp w0 F0 w L) : Ext F0 w0 w := by
  obtain ⟨M, hM, h⟩ := h
  exact h.ext
theorem Sp.drew (h : Sp w0 F0 w L) : Sp w0 F0 w.drew L := h.ext0 (Ext.refl [] w).drew
theorem Sp.drewN (h : Sp w0 F0 w L) (n : Nat) : Sp w0 F0 (w.drewN n) L := h.ext0 ((Ext.refl [] w).drewN n)
theorem Sp.new (h : Sp w0 F0 w L) (o : Obj) : Sp w0 F0 (w.alloc o) L := h.ext0 ((Ext.refl [] w).alloc o)
/-- The first part: where it lies, and how it may move. -/
theorem Sp.take (h : Sp w0 F0 w (r :: L)) : ∃ F, r.holds F w ∧ ∀ (w2 : World) (s : Res) (G : List Nat), s.holds G w2 → Moved F w w2 G → Sp w0 F0 w2 (s :: L) := by
  obtain ⟨M, hM, h⟩ := h
  obtain ⟨a, M', rfl, rfl, rfl⟩ := List.map_eq_cons_iff.1 hM
  obtain ⟨r, F⟩ := a
  exact ⟨F, h.all (r, F) (by simp), fun w2 s G hs m => ⟨(s, G) :: M', rfl, h.moved m hs⟩⟩
theorem Sp.gain (h : Sp w0 F0 w L) (hx : Ext [] w w2) (hs : s.holds G w2) (hn : ∀ x ∈ G, w.heap.size ≤ x) : Sp w0 F0 w2 (s :: L) := by
  obtain ⟨M, rfl, h⟩ := h
  exact ⟨(s, G) :: M, rfl, h.gain hx hs hn⟩
theorem Sp.drop (h : Sp w0 F0 w (r :: L)) : Sp w0 F0 w L := by
  obtain ⟨M, hM, h⟩ := h
  obtain ⟨a, M', rfl, rfl, rfl⟩ := List.map_eq_cons_iff.1 hM
  exact ⟨M', rfl, h.ext, fun r hr => h.all r (by simp [hr]), (List.pairwise_cons.1 h.apart).2, fun r hr => h.own r (by simp [hr])⟩
theorem Sp.drops (K : List Res) (h : Sp w0 F0 w (K ++ L)) : Sp w0 F0 w L := by
  induction K with
  | nil => exact h
  | cons a K ih => exact ih h.drop
theorem Sp.pull1 (h : Sp w0 F0 w (r :: s :: L)) : Sp w0 F0 w (s :: r :: L) := by
  obtain ⟨M, hM, h⟩ := h
  obtain ⟨a, M1, rfl, rfl, hM1⟩ := List.map_eq_cons_iff.1 hM
  obtain ⟨b, M2, rfl, rfl, rfl⟩ := List.map_eq_cons_iff.1 hM1
  exact ⟨b :: a :: M2, rfl, h.perm (List.Perm.swap ..)⟩
/-- Behind the first part the order may be turned. -/
theorem Sp.under {K : List Res} (h : Sp w0 F0 w (r :: L)) (hk : ∀ {w0 w : World} {F0 : List Nat}, Sp w0 F0 w L → Sp w0 F0 w K) : Sp w0 F0 w (r :: K) := by
  obtain ⟨M, hM, h⟩ := h
  obtain ⟨a, M1, rfl, rfl, rfl⟩ := List.map_eq_cons_iff.1 hM
  -- the parts behind lie in what isn't a's: taken as a run of its own
  have hp := List.pairwise_cons.1 h.apart
  obtain ⟨M2, h2, h3⟩ := hk (w0 := w) (w := w) (F0 := M1.flatMap (·.2)) ⟨M1, rfl, Ext.refl _ _, fun r hr => h.all r (by simp [hr]), hp.2, fun r hr x hx => .inl (List.mem_flatMap.2 ⟨r, hr, hx⟩)⟩
  have hin : ∀ q ∈ M2, ∀ x ∈ q.2, ∃ p ∈ M1, x ∈ p.2 := fun q hq x hx => by
    rcases h3.own q hq x hx with h | h
    · exact List.mem_flatMap.1 h
    · have := q.1.inside (h3.all q hq) x hx
      omega
  refine ⟨a :: M2, by simp [h2], h.ext, ?_, ?_, ?_⟩
  · intro q hq
    rcases List.mem_cons.1 hq with rfl | hq
    · exact h.all _ (by simp)
    · exact h3.all q hq
  · rw [List.pairwise_cons]
    refine ⟨fun q hq x hx hxq => ?_, h3.apart⟩
    obtain ⟨p, hp1, hp2⟩ := hin q hq x hxq
    exact hp.1 p hp1 x hx hp2
  · intro q hq x hx
    rcases List.mem_cons.1 hq with rfl | hq
    · exact h.own _ (by simp) x hx
    · obtain ⟨p, hp1, hp2⟩ := hin q hq x hx
      exact h.own p (by simp [hp1]) x hp2
theorem Sp.pull2 (h : Sp w0 F0 w (r :: s :: t :: L)) : Sp w0 F0 w (t :: r :: s :: L) := (h.under Sp.pull1).pull1
theorem Sp.pull3 (h : Sp w0 F0 w (r :: s :: t :: u :: L)) : Sp w0 F0 w (u :: r :: s :: t :: L) := (h.under Sp.pull2).pull1
theorem Sp.pull4 (h : Sp w0 F0 w (r :: s :: t :: u :: v :: L)) : Sp w0 F0 w (v :: r :: s :: t :: u :: L) := (h.under Sp.pull3).pull1
theorem Sp.push2 (h : Sp w0 F0 w (t :: r :: s :: L)) : Sp w0 F0 w (r :: s :: t :: L) := h.pull1.under Sp.pull1
theorem Sp.push3 (h : Sp w0 F0 w (u :: r :: s :: t :: L)) : Sp w0 F0 w (r :: s :: t :: u :: L) := h.pull1.under Sp.push2
theorem Sp.push4 (h : Sp w0 F0 w (v :: r :: s :: t :: u :: L)) : Sp w0 F0 w (r :: s :: t :: u :: v :: L) := h.pull1.under Sp.push3
/-- Two parts as one. -/
abbrev Res.and (r s : Res) : Res where
  holds := fun F w => ∃ G H, r.holds G w ∧ s.holds H w ∧ (∀ x ∈ G, x ∉ H) ∧ F = G ++ H
  keeps := by
    rintro F w w2 K ⟨G, H, h1, h2, h3, rfl⟩ hx hd
    exact ⟨G, H, r.keeps h1 hx (fun x hx => hd x (by simp [hx])), s.keeps h2 hx (fun x hx => hd x (by simp [hx])), h3, rfl⟩
  inside := by
    rintro F w ⟨G, H, h1, h2, h3, rfl⟩ x hx
    rcases List.mem_append.1 hx with hx | hx
    · exact r.inside h1 x hx
    · exact s.inside h2 x hx
theorem Sp.part (h : Sp w0 F0 w (r.and s :: L)) : Sp w0 F0 w (r :: s :: L) := by
  obtain ⟨M, hM, h⟩ := h
  obtain ⟨⟨a, F⟩, M1, rfl, ha, rfl⟩ := List.map_eq_cons_iff.1 hM
  dsimp only at ha
  subst ha
  obtain ⟨G, H, h1, h2, h3, rfl⟩ := h.all _ (List.mem_cons_self ..)
  have hp := List.pairwise_cons.1 h.apart
  refine ⟨(r, G) :: (s, H) :: M1, rfl, h.ext, ?_, ?_, ?_⟩
  · intro q hq
    simp only [List.mem_cons] at hq
    rcases hq with rfl | rfl | hq
    · exact h1
    · exact h2
    · exact h.all q (by simp [hq])
  · rw [List.pairwise_cons, List.pairwise_cons]
    refine ⟨fun q hq x hx => ?_, fun q hq x hx => hp.1 q hq x (by simp [hx]), hp.2⟩
    rcases List.mem_cons.1 hq with rfl | hq
    · exact h3 x hx
    · exact hp.1 q hq x (by simp [hx])
  · intro q hq x hx
    simp only [List.mem_cons] at hq
    rcases hq with rfl | rfl | hq
    · exact h.own (_, G ++ H) (List.mem_cons_self ..) x (List.mem_append_left _ hx)
    · exact h.own (_, G ++ H) (List.mem_cons_self ..) x (List.mem_append_right _ hx)
    · exact h.own q (by simp [hq]) x hx
theorem Sp.glue (h : Sp w0 F0 w (r :: s :: L)) : Sp w0 F0 w (r.and s :: L) := by
  obtain ⟨M, hM, h⟩ := h
  obtain ⟨⟨a, F⟩, M1, rfl, ha, hM1⟩ := List.map_eq_cons_iff.1 hM
  obtain ⟨⟨b, G⟩, M2, rfl, hb, rfl⟩ := List.map_eq_cons_iff.1 hM1
  dsimp only at ha hb
  subst ha hb
  have hp := List.pairwise_cons.1 h.apart
  have hp2 := List.pairwise_cons.1 hp.2
  refine ⟨(_, F ++ G) :: M2, rfl, h.ext, ?_, ?_, ?_⟩
  · intro q hq
    rcases List.mem_cons.1 hq with rfl | hq
    · exact ⟨F, G, h.all (a, F) (by simp), h.all (b, G) (by simp), hp.1 (b, G) (by simp), rfl⟩
    · exact h.all q (by simp [hq])
  · rw [List.pairwise_cons]
    refine ⟨fun q hq x hx hxq => ?_, hp2.2⟩
    rcases List.mem_append.1 hx with h1 | h1
    · exact hp.1 q (by simp [hq]) x h1 hxq
    · exact hp2.1 q hq x h1 hxq
  · intro q hq x hx
    rcases List.mem_cons.1 hq with rfl | hq
    · rcases List.mem_append.1 hx with h1 | h1
      · exact h.own (a, F) (by simp) x h1
      · exact h.own (b, G) (by simp) x h1
    · exact h.own q (by simp [hq]) x hx
/-- Of the first parts those with these numbers, in this order; the others are let go. -/
theorem Sp.pick (K : List Res) (I : List Nat) (hI : I.Nodup) (h : Sp w0 F0 w (K ++ L)) : Sp w0 F0 w (I.filterMap (fun i => K[i]?) ++ L) := by
  obtain ⟨M, hM, h⟩ := h
  obtain ⟨M1, M2, rfl, h1, rfl⟩ := List.map_eq_append_iff.1 hM
  have hmem : ∀ q ∈ I.filterMap (fun i => M1[i]?), q ∈ M1 := fun q hq => by
    obtain ⟨i, _, hi⟩ := List.mem_filterMap.1 hq
    exact List.mem_of_getElem? hi
  refine ⟨I.filterMap (fun i => M1[i]?) ++ M2, ?_, h.ext, ?_, ?_, ?_⟩
  · rw [List.map_append, List.map_filterMap]
    congr 2
    funext i
    rw [← h1]
    simp
  · intro q hq
    rcases List.mem_append.1 hq with hq | hq
    · exact h.all q (by simp [hmem q hq])
    · exact h.all q (by simp [hq])
  · obtain ⟨p1, p2, p3⟩ := List.pairwise_append.1 h.apart
    refine List.pairwise_append.2 ⟨?_, p2, fun a ha b hb => p3 a (hmem a ha) b hb⟩
    rw [List.pairwise_filterMap]
    refine hI.imp fun {i j} hij a ha b hb => ?_
    obtain ⟨hi, rfl⟩ := List.getElem?_eq_some_iff.1 ha
    obtain ⟨hj, rfl⟩ := List.getElem?_eq_some_iff.1 hb
    rcases Nat.lt_or_gt_of_ne hij with hlt | hlt
    · exact List.pairwise_iff_getElem.1 p1 i j hi hj hlt
    · exact fun x hx hx2 => List.pairwise_iff_getElem.1 p1 j i hj hi hlt x hx2 hx
  · intro q hq
    rcases List.mem_append.1 hq with hq | hq
    · exact h.own q (by simp [hmem q hq])
    · exact h.own q (by simp [hq])
/-- The first part is seen otherwise. -/
theorem Sp.as (h : Sp w0 F0 w (r :: L)) (hs : ∀ F, r.holds F w → s.holds F w) : Sp w0 F0 w (s :: L) := by
  obtain ⟨F, h1, h2⟩ := h.take
  exact h2 w s F (hs F h1) (Moved.refl F w)
theorem Sp.out (h : Sp w F w2 (s :: L)) : ∃ G, s.holds G w2 ∧ Moved F w w2 G := by
  obtain ⟨M, hM, h⟩ := h
  obtain ⟨⟨a, G⟩, M1, rfl, ha, rfl⟩ := List.map_eq_cons_iff.1 hM
  dsimp only at ha
  subst ha
  exact ⟨G, h.all _ (List.mem_cons_self ..), h.ext, h.own _ (List.mem_cons_self ..)⟩

/-- A part with something open in it. -/
abbrev Res.ex {α : Type} (f : α → Res) : Res where
  holds := fun F w => ∃ a, (f a).holds F w
  keeps := fun ⟨a, h⟩ hx hd => ⟨a, (f a).keeps h hx hd⟩
  inside := fun ⟨a, h⟩ => (f a).inside h
theorem Sp.exOpen {α : Type} {f : α → Res} (h : Sp w0 F0 w (Res.ex f :: L)) : ∃ a, Sp w0 F0 w (f a :: L) := by
  obtain ⟨F, ⟨a, h1⟩, h2⟩ := h.take
  exact ⟨a, h2 w (f a) F h1 (Moved.refl F w)⟩
theorem Sp.exShut {α : Type} {f : α → Res} (a : α) (h : Sp w0 F0 w (f a :: L)) : Sp w0 F0 w (Res.ex f :: L) := h.as fun _ hF => ⟨a, hF⟩

/-! ### one block of cells -/
abbrev boxR (b : Nat) (c : Array Value) (T : TypeId) : Res where
  holds := fun F w => F = [b] ∧ w.heap[b]? = some (.cells c T (0, 0))
  keeps := fun h hx hd => ⟨h.1, hx.heap h.2 (hd b (by simp [h.1]))⟩
  inside := fun h x hx => by rw [h.1] at hx; simp at hx; subst hx; exact heap_lt h.2
theorem Sp.box (h : Sp w0 F0 w L) (c : Array Value) (T : TypeId) : Sp w0 F0 (w.alloc (.cells c T)) (boxR w.heap.size c T :: L) :=
  h.gain (G := [w.heap.size]) ((Ext.refl [] w).alloc _) ⟨rfl, (MapKept.heap_alloc w _).1⟩ (by simp)
theorem setCell_heap {b o : Nat} {c : Array Value} {T : TypeId} {fr : Nat × Nat} (h : w.heap[b]? = some (.cells c T fr)) (v : Value) : (w.setCell ⟨b, o, none⟩ v).heap[b]? = some (.cells (c.setIfInBounds o v) T fr) := by
  simp only [World.setCell, Array.getElem?_modify, h]
  simp
theorem Sp.set {b o : Nat} {c : Array Value} {T : TypeId} (h : Sp w0 F0 w (boxR b c T :: L)) (v : Value) : Sp w0 F0 (w.setCell ⟨b, o, none⟩ v) (boxR b (c.setIfInBounds o v) T :: L) := by
  obtain ⟨F, ⟨rfl, h1⟩, h2⟩ := h.take
  exact h2 _ _ [b] ⟨rfl, setCell_heap h1 v⟩ (Moved.of_ext ((Ext.refl _ w).setCell (by simp) v))
theorem Sp.boxed {b : Nat} {c : Array Value} {T : TypeId} (h : Sp w0 F0 w (boxR b c T :: L)) : w.heap[b]? = some (.cells c T (0, 0)) := by
  obtain ⟨F, ⟨rfl, h1⟩, _⟩ := h.take
  exact h1
theorem Sp.cell {b : Nat} {c : Array Value} {T : TypeId} (h : Sp w0 F0 w (boxR b c T :: L)) (o : Nat) : w.cell? ⟨b, o, none⟩ = c[o]? := by
  simp [World.cell?, h.boxed]
theorem Sp.free {b : Nat} {c : Array Value} {T : TypeId} (h : Sp w0 F0 w (boxR b c T :: L)) (o : Nat) : w.frozen? ⟨b, o, none⟩ = false := by
  simp [World.frozen?, h.boxed]
theorem Sp.boxlt {b : Nat} {c : Array Value} {T : TypeId} (h : Sp w0 F0 w (boxR b c T :: L)) : b < w.heap.size := heap_lt h.boxed
end
end Go.Proofs.YtcffickkipicbaaGreatDoor
