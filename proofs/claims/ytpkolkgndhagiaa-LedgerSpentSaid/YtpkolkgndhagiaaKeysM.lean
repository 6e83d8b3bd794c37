/- Maps as sorted lists of pairs, plainly: which keys there are. No program. -/
import Derived.Test.YtpkolkgndhagiaaMap
namespace Go.Proofs.Ytpkolkgndhagiaa
open Go.RowKit Go.Maps

section
variable {V U : Type}
def Mp.keys (M : Mp V) : List Bs := M.map (·.1)
def Mp.Sorted (M : Mp V) : Prop := M.Pairwise fun p q => bytesBefore p.1 q.1 = true
theorem Mp.keys_ins (x : Bs × V) (y : Bs × U) (h : x.1 = y.1) : ∀ (M : Mp V) (N : Mp U), M.keys = N.keys → (Mp.ins x M).keys = (Mp.ins y N).keys
  | [], [], _ => by simp [Mp.ins, Mp.keys, h]
  | [], b :: N, e => by simp [Mp.keys] at e
  | a :: M, [], e => by simp [Mp.keys] at e
  | a :: M, b :: N, e => by
    simp only [Mp.keys, List.map_cons, List.cons.injEq] at e
    have ih := Mp.keys_ins x y h M N e.2
    unfold Mp.ins
    rw [e.1, h]
    split
    · simp only [Mp.keys, List.map_cons, h, e.1, e.2]
    · simp only [Mp.keys, List.map_cons, e.1] at *
      rw [ih]
theorem Mp.keys_del (k : Bs) : ∀ (M : Mp V) (N : Mp U), M.keys = N.keys → (M.del k).keys = (N.del k).keys
  | [], [], _ => rfl
  | [], b :: N, e => by simp [Mp.keys] at e
  | a :: M, [], e => by simp [Mp.keys] at e
  | a :: M, b :: N, e => by
    simp only [Mp.keys, List.map_cons, List.cons.injEq] at e
    have ih := Mp.keys_del k M N e.2
    unfold Mp.del at *
    rw [List.filter_cons, List.filter_cons, e.1]
    split
    · simp only [Mp.keys, List.map_cons, e.1] at *
      rw [ih]
    · exact ih
theorem Mp.keys_put (k : Bs) (v : V) (u : U) {M : Mp V} {N : Mp U} (e : M.keys = N.keys) : (M.put k v).keys = (N.put k u).keys :=
  Mp.keys_ins (k, v) (k, u) rfl _ _ (Mp.keys_del k M N e)
theorem Mp.mem_keys {M : Mp V} {k : Bs} : k ∈ M.keys ↔ (M.get k).isSome = true := by
  rw [← Mp.has_eq, Mp.has, List.any_eq_true, Mp.keys, List.mem_map]
  constructor
  · rintro ⟨p, hp, rfl⟩; exact ⟨p, hp, by simp⟩
  · rintro ⟨p, hp, h⟩; exact ⟨p, hp, by simpa using h⟩
end
end Go.Proofs.Ytpkolkgndhagiaa
