/- Slices that the program itself lays, as parts of memory: append. No condition but that the lengths fit. -/
import Derived.Test.YtcffickkipicbaaGreatDoorSp
import Derived.Test.YtcffickkipicbaaGreatDoorShelf
import Derived.Lib.OwnBridge
import Derived.Deep.AppendLies
set_option linter.unusedSimpArgs false
set_option linter.unusedVariables false
set_option linter.unnecessarySimpa false
namespace Go.Proofs.YtcffickkipicbaaGreatDoor
open Go.RowKit Go.Maps Go.Sort

/-- A slice value with a row of its own: n elements of k cells each. -/
abbrev rowR (e k : Nat) (v : Value) (n : Nat) (xs : List Value) : Res where
  holds := fun F w => F = v.ownBlock.toList ∧ w.ownsRow 0 e k v n xs
  keeps := fun h hx hd => ⟨h.1, row_ext h.2 hx fun j hj => hd j (by rw [h.1]; simp [hj])⟩
  inside := fun h x hx => by rw [h.1] at hx; exact (h.2.lt x (by simpa using hx)).2
section
variable {w0 w : World} {F0 : List Nat} {L : List Res} {e k n b : Nat} {v : Value} {xs : List Value}
theorem Sp.rowNil (S : Sp w0 F0 w L) (e k : Nat) : Sp w0 F0 w (rowR e k (.slice none 0 0) 0 [] :: L) :=
  S.gain (G := []) (Ext.refl [] w) ⟨rfl, by simp, .inl ⟨rfl, rfl⟩⟩ (by simp)
theorem Sp.row (S : Sp w0 F0 w (rowR e k v n xs :: L)) : w.ownsRow 0 e k v n xs := by
  obtain ⟨F, ⟨_, h⟩, _⟩ := S.take
  exact h
/-- append(v, x), the one element x lying in the box b. -/
theorem Sp.appendOne (t ty : TypeId) (c : Array Value) (z : Value) (bytes : Nat) (hinf : (Tryz.prog.info? e).map (fun i => (i.zero, i.size, i.bytes)) = some (some z, k, bytes)) (hzk : z.cells.size = k) (ht : Tryz.prog.underlying t = some (.slice e)) (hk : 0 < k) (hby : bytes ≤ 1000)
    (hc : c.size = k) (hone : ∀ u ∈ c.toList, u.oneCell' = true) (hn : n < 10000000000) (S : Sp w0 F0 w (boxR b c e :: rowR e k v n xs :: L)) :
    ∃ g cap w2, (Builtin.append_ #[t, t] ty #[v, .slice (some ⟨b, 0, none⟩) 1 1]).run Tryz.prog w = .ok (.slice (some ⟨g, 0, none⟩) (n + 1) cap) w2 ∧ Sp w0 F0 w2 (boxR b c e :: rowR e k (.slice (some ⟨g, 0, none⟩) (n + 1) cap) (n + 1) (xs ++ c.toList) :: L) := by
  obtain ⟨i0, hi0, hz0, hz1, hz2⟩ := info_parts hinf
  have hown := S.pull1.row
  have hb := S.boxed
  obtain ⟨g, cap, w2, hr, ho, hg, hat, _⟩ := run_append_lies (P := Tryz.prog) w t ty 0 e i0 z k bytes ht hi0 hz0 hz1 hz2 hzk hk v n xs hown ⟨b, 0, none⟩ 1 1 c.toList (by simp [hc]) (World.news_of_block (fr := (0, 0)) hb) hone (by omega) (by unfold maxLen; omega)
    (by have : (n + 1) * bytes ≤ 10000000000 * 1000 := Nat.mul_le_mul (by omega) hby; omega) (Nat.zero_le _) _ rfl
  obtain ⟨F, ⟨rfl, _⟩, hk3⟩ := S.pull1.take
  refine ⟨g, cap, w2, hr, (hk3 w2 (rowR e k (.slice (some ⟨g, 0, none⟩) (n + 1) cap) (n + 1) (xs ++ c.toList)) [g] ⟨rfl, ho⟩ ⟨⟨hg.os, hg.tape, hg.output, hg.size, fun j hj hn => hg.block j hj (fun e => hn (by simp [← e]))⟩, fun x hx => ?_⟩).pull1⟩
  simp only [List.mem_singleton] at hx
  subst hx
  rcases hat with h | h
  · exact .inl (by simp [h])
  · exact .inr (by omega)
theorem cells_take : ∀ (xs : List (List Value)) (k i : Nat) (r : List Value), (∀ x ∈ xs, x.length = k) → xs[i]? = some r → ∀ j, j < k → (xs.flatten)[i * k + j]? = r[j]?
  | [], _, _, _, _, h => by simp at h
  | x :: xs, k, 0, r, hl, h => fun j hj => by
    simp only [List.getElem?_cons_zero, Option.some.injEq] at h
    subst h
    rw [List.flatten_cons, List.getElem?_append_left (by rw [hl x (by simp)]; omega)]
    simp
  | x :: xs, k, i + 1, r, hl, h => fun j hj => by
    simp only [List.getElem?_cons_succ] at h
    have h1 := cells_take xs k i r (fun y hy => hl y (by simp [hy])) h j hj
    rw [List.flatten_cons, List.getElem?_append_right (by rw [hl x (by simp), Nat.add_mul]; omega), hl x (by simp), ← h1]
    congr 1
    rw [Nat.add_mul]
    omega
/-- The cells of such a slice. -/
theorem Sp.rowCell {rs : List (List Value)} {g cap : Nat} (S : Sp w0 F0 w (rowR e k (.slice (some ⟨g, 0, none⟩) n cap) n rs.flatten :: L)) (hl : ∀ x ∈ rs, x.length = k) {i : Nat} {r : List Value} (hr : rs[i]? = some r) {j : Nat} {u : Value} (hu : r[j]? = some u) : w.cell? ⟨g, i * k + j, none⟩ = some u := by
  have hj : j < k := by rw [← hl r (List.mem_of_getElem? hr)]; exact (List.getElem?_eq_some_iff.1 hu).1
  have h := S.row.cells (g := g) rfl (i * k + j) u (by rw [cells_take rs k i r hl hr j hj, hu])
  have hadd : (⟨g, 0, none⟩ : Addr).add (i * k + j) = ⟨g, i * k + j, none⟩ := by unfold Addr.add; split <;> simp_all
  rw [hadd] at h
  exact h
theorem Sp.rowForm (S : Sp w0 F0 w (rowR e k v n xs :: L)) : (v = .slice none 0 0 ∧ n = 0) ∨ ∃ g cap, v = .slice (some ⟨g, 0, none⟩) n cap := by
  rcases S.row.2 with ⟨h1, h2⟩ | ⟨g, cap, cur, h1, _⟩
  · exact .inl ⟨h1, h2⟩
  · exact .inr ⟨g, cap, h1⟩

/-- A row laid at once. -/
theorem Sp.rowLaid (S : Sp w0 F0 w L) (e k n : Nat) (xs : List Value) (hx : xs.length = n * k) (hn : n ≤ maxLen) : Sp w0 F0 (w.alloc (.cells xs.toArray e)) (rowR e k (.slice (some ⟨w.heap.size, 0, none⟩) n n) n xs :: L) :=
  S.gain (G := [w.heap.size]) ((Ext.refl [] w).alloc _) ⟨rfl, hx, .inr ⟨w.heap.size, n, xs.toArray, rfl, Nat.zero_le _, (MapKept.heap_alloc w _).1, Nat.le_refl _, hn, by simpa using hx, by rw [← hx]; simp⟩⟩ (by simp)

/-! ### texts -/
theorem infoStr0 : (Tryz.prog.info? 9).map (fun i => (i.zero, i.size, i.bytes)) = some (some (.string ⟨#[]⟩), 1, 16) := by kernel_rfl
/-- A slice value that holds texts, in blocks of its own. -/
abbrev textsR (v : Value) (l : List Bs) : Res := rowR 9 1 v l.length (l.map encStr)
theorem Sp.textsNil (S : Sp w0 F0 w L) : Sp w0 F0 w (textsR (.slice none 0 0) [] :: L) := S.rowNil 9 1
theorem Sp.appendText (ty : TypeId) {l : List Bs} (x : Bs) (hn : l.length < 10000000000) (S : Sp w0 F0 w (boxR b #[.string ⟨x.toArray⟩] 9 :: textsR v l :: L)) :
    ∃ g cap w2, (Builtin.append_ #[38, 38] ty #[v, .slice (some ⟨b, 0, none⟩) 1 1]).run Tryz.prog w = .ok (.slice (some ⟨g, 0, none⟩) (l.length + 1) cap) w2 ∧ Sp w0 F0 w2 (textsR (.slice (some ⟨g, 0, none⟩) (l.length + 1) cap) (l ++ [x]) :: L) := by
  obtain ⟨g, cap, w2, h1, S2⟩ := Sp.appendOne 38 ty #[.string ⟨x.toArray⟩] _ 16 infoStr0 rfl Tryz.underlying38 (by decide) (by decide) rfl (by simp [Value.oneCell']) hn S
  refine ⟨g, cap, w2, h1, ?_⟩
  have e1 : (l ++ [x]).map encStr = l.map encStr ++ [.string ⟨x.toArray⟩] := by simp [show ∀ l : Bs, encStr l = .string ⟨l.toArray⟩ from fun _ => rfl]
  have e2 : (l ++ [x]).length = l.length + 1 := by simp
  unfold textsR
  rw [e1, e2]
  exact S2.drop
end
end Go.Proofs.YtcffickkipicbaaGreatDoor
