/- Slices of texts that are only read: where they lie. No condition. -/
import Derived.Test.YtcffickkipicbaaGreatDoorRow0
import Derived.Deep.Upon
import Derived.Deep.AppendSrc
set_option linter.unusedSimpArgs false
set_option linter.unusedVariables false
set_option linter.unnecessarySimpa false
namespace Go.Proofs.YtcffickkipicbaaGreatDoor
open Go.RowKit Go.Maps Go.Sort

theorem wpList_append_run_g {P : Program} {w w1 : World} {ops : Array Oper} {rest : List Oper} {o : Oper} {a : Act} {Q : Exit → Act → World → Prop} {s x : Operand} {t : TypeId} {v u r : Value} (hw : Region.wanted o (yielded ops a.tmps) = true)
    (ho : o.op = .call { callee := .builtin .append, args := #[s, x], argTypes := #[t, t] }) (hs : a.eval s = v) (hx : a.eval x = u)
    (hr : (Builtin.append_ #[t, t] o.type #[v, u]).run P w = .ok r w1) (h : wpList P ops Q rest (a.put o.dst r) w1) : wpList P ops Q (o :: rest) a w := by
  refine wpList_step fun K hK => ?_
  rw [if_pos hw]
  unfold Oper.wp execOp
  simp only [ho, resolve, invoke, builtin, Sem.run_bind, Sem.run_pure, Result.andThen_ok, List.map_toArray, List.map_cons, List.map_nil, hs, hx, hr]
  exact hK _ _ h
/-- A slice value that holds texts, read only. -/
def TxAt (w : World) (v : Value) (l : List Bs) : Prop :=
  ∃ a cap, v = .slice a l.length cap ∧ (l.length ≤ cap ∧ cap ≤ maxLen) ∧ (l = [] ∨ ∃ b off, a = some ⟨b, off, none⟩ ∧ ∀ i, (h : i < l.length) → w.cell? ⟨b, off + i, none⟩ = some (.string ⟨l[i].toArray⟩))
section
variable {w0 w w2 : World} {F0 : List Nat} {L : List Res} {v : Value} {l : List Bs}
theorem TxAt.ext (h : TxAt w v l) (hx : Ext [] w w2) : TxAt w2 v l := by
  obtain ⟨a, cap, h1, h2, h3⟩ := h
  refine ⟨a, cap, h1, h2, ?_⟩
  rcases h3 with h3 | ⟨b, off, h3, h4⟩
  · exact .inl h3
  · exact .inr ⟨b, off, h3, fun i hi => hx.cell (h4 i hi) (by simp)⟩
theorem TxAt.nil (w : World) : TxAt w (.slice none 0 0) [] := ⟨none, 0, rfl, ⟨Nat.le_refl _, Nat.zero_le _⟩, .inl rfl⟩
theorem TxAt.row (h : w.ownsRow 0 9 1 v l.length (l.map encStr)) : TxAt w v l := by
  rcases h.2 with ⟨rfl, h0⟩ | ⟨g, cap, cur, rfl, _, hg, hc, hm, _⟩
  · have : l = [] := List.eq_nil_of_length_eq_zero h0
    subst this
    exact TxAt.nil w
  · refine ⟨_, _, rfl, ⟨hc, hm⟩, .inr ⟨g, 0, rfl, fun i hi => ?_⟩⟩
    have hc := World.ownsRow.cells h (g := g) rfl i (encStr l[i]) (by rw [List.getElem?_map, List.getElem?_eq_getElem hi]; rfl)
    have add : (⟨g, 0, none⟩ : Addr).add i = ⟨g, 0 + i, none⟩ := by unfold Addr.add; split <;> simp_all
    rw [add] at hc
    exact hc
theorem Sp.tx (S : Sp w0 F0 w (textsR v l :: L)) : TxAt w v l := TxAt.row S.row
theorem TxAt.at {a : Option Addr} {n cap : Nat} (h : TxAt w (.slice a n cap) l) {i : Nat} (hi : i < l.length) : ∃ b off, a = some ⟨b, off, none⟩ ∧ w.cell? ⟨b, off + i, none⟩ = some (.string ⟨l[i].toArray⟩) := by
  obtain ⟨a2, cap2, h1, _, h3⟩ := h
  cases h1
  rcases h3 with rfl | ⟨b, off, h3, h4⟩
  · cases hi
  · exact ⟨b, off, h3, h4 i hi⟩
theorem TxAt.form (h : TxAt w v l) : ∃ a cap, v = .slice a l.length cap := by
  obtain ⟨a, cap, h1, _⟩ := h
  exact ⟨a, cap, h1⟩
/-- What was made from a world on stands beside what was there. -/
theorem Sp.add {K : List Res} (S : Sp w0 F0 w L) (S2 : Sp w [] w2 K) : Sp w0 F0 w2 (K ++ L) := by
  obtain ⟨M, rfl, h⟩ := S
  obtain ⟨N, rfl, k⟩ := S2
  have hin : ∀ r ∈ N, ∀ x ∈ r.2, w.heap.size ≤ x := fun r hr x hx => by
    rcases k.own r hr x hx with h1 | h1
    · simp at h1
    · exact h1
  refine ⟨N ++ M, by simp, h.ext.trans k.ext (by simp), fun r hr => ?_, ?_, fun r hr x hx => ?_⟩
  · rcases List.mem_append.1 hr with hr | hr
    · exact k.all r hr
    · exact r.1.keeps (h.all r hr) k.ext (by simp)
  · rw [List.pairwise_append]
    exact ⟨k.apart, h.apart, fun r hr q hq x hx hx2 => by have := hin r hr x hx; have := q.1.inside (h.all q hq) x hx2; omega⟩
  · rcases List.mem_append.1 hr with hr | hr
    · have := hin r hr x hx
      have := h.ext.size
      exact .inr (by omega)
    · exact h.own r hr x hx
theorem TxAt.cap {a : Option Addr} {n cap : Nat} (h : TxAt w (.slice a n cap) l) : l.length ≤ cap ∧ cap ≤ maxLen := by
  obtain ⟨a2, cap2, h1, h2, h3⟩ := h
  cases h1
  exact h2
theorem TxAt.take {a : Option Addr} {n cap : Nat} (h : TxAt w (.slice a n cap) l) (k : Nat) (hk : k ≤ l.length) : TxAt w (.slice a k cap) (l.take k) := by
  obtain ⟨a2, cap2, h1, h2, h3⟩ := h
  cases h1
  have e : (l.take k).length = k := by rw [List.length_take]; omega
  refine ⟨a, cap, by rw [e], by omega, ?_⟩
  rcases h3 with rfl | ⟨b, off, h3, h4⟩
  · exact .inl (by simp)
  · exact .inr ⟨b, off, h3, fun i hi => by rw [h4 i (by omega), List.getElem_take]⟩
/-- append(v, x...), x a view of texts. -/
theorem Sp.appendView (ty : TypeId) {x : Value} {m : List Bs} (T : TxAt w x m) (S : Sp w0 F0 w (textsR v l :: L)) (hl : l.length ≤ 1000000000) (hm : m.length ≤ 1000000000) :
    ∃ v2 w2, (Builtin.append_ #[38, 38] ty #[v, x]).run Tryz.prog w = .ok v2 w2 ∧ Sp w0 F0 w2 (textsR v2 (l ++ m) :: L) := by
  obtain ⟨i0, hi0, hz0, hz1, hz2⟩ := info_parts infoStr0
  obtain ⟨a, cap, rfl, _, h⟩ := T
  have hown := S.row
  by_cases h0 : m = []
  · subst h0
    refine ⟨v, w, ?_, by rw [List.append_nil]; exact S⟩
    have hcap : ∃ a n c, v = .slice a n c ∧ n ≤ c := by
      rcases hown.2 with ⟨rfl, _⟩ | ⟨g, cap, cur, rfl, _, _, hc, _⟩
      · exact ⟨none, 0, 0, rfl, Nat.le_refl _⟩
      · exact ⟨_, _, _, rfl, hc⟩
    obtain ⟨a2, n2, c2, rfl, hle⟩ := hcap
    refine run_append_nothing w 38 38 ty 9 i0 Tryz.underlying38 hi0 a2 n2 c2 hle _ ?_
    cases a with
    | none => exact Src.ofNil w Tryz.underlying38 cap
    | some a => exact Src.ofSlice w Tryz.underlying38 a 0 cap [] (by simp) (fun j u hj => by simp at hj) (fun u hu => by cases hu)
  · rcases h with h | ⟨b, off, rfl, h⟩
    · exact absurd h h0
    · obtain ⟨g, cap2, w2, hr, ho, hg, hat, _⟩ := run_append_lies (P := Tryz.prog) w 38 ty 0 9 i0 _ 1 16 Tryz.underlying38 hi0 hz0 hz1 hz2 rfl (by omega) v l.length (l.map encStr) hown ⟨b, off, none⟩ m.length cap (m.map encStr) (by simp) (fun j u hj => by
          rw [List.getElem?_map] at hj
          cases hm : m[j]? with
          | none => rw [hm] at hj; cases hj
          | some y =>
            rw [hm] at hj
            obtain ⟨hj2, rfl⟩ := List.getElem?_eq_some_iff.1 hm
            have add : (⟨b, off, none⟩ : Addr).add j = ⟨b, off + j, none⟩ := by unfold Addr.add; split <;> simp_all
            rw [add, h j hj2]
            exact hj)
        (fun u hu => by obtain ⟨y, _, rfl⟩ := List.mem_map.1 hu; rfl) (List.length_pos_iff.2 h0) (by unfold maxLen; omega) (by omega) (Nat.zero_le _) _ rfl
      obtain ⟨F, ⟨rfl, _⟩, hk3⟩ := S.take
      refine ⟨_, w2, hr, hk3 w2 _ [g] ⟨rfl, ?_⟩ ⟨⟨hg.os, hg.tape, hg.output, hg.size, fun j hj hn => hg.block j hj (fun e => hn (by simp [← e]))⟩, fun x hx => ?_⟩⟩
      · show World.ownsRow _ 0 9 1 _ (l ++ m).length ((l ++ m).map encStr)
        rw [List.length_append, List.map_append]
        exact ho
      · simp only [List.mem_singleton] at hx
        subst hx
        rcases hat with h | h
        · exact .inl (by simp [h])
        · exact .inr (by omega)
theorem Sp.textsNone (S : Sp w0 F0 w L) : Sp w0 F0 (w.alloc (.cells #[] 9)) (textsR (.slice (some ⟨w.heap.size, 0, none⟩) 0 0) [] :: L) :=
  S.gain (G := [w.heap.size]) ((Ext.refl [] w).alloc _) ⟨rfl, rfl, .inr ⟨w.heap.size, 0, #[], rfl, Nat.zero_le _, (MapKept.heap_alloc w _).1, Nat.le_refl _, by unfold maxLen; omega, rfl, rfl⟩⟩ (by simp)
end
end Go.Proofs.YtcffickkipicbaaGreatDoor
