/- Parts of memory: many as one; a fact; slices that begin inside their block (queues: append, all but the first); what is only read from now on. No condition but that the lengths fit. -/
import Derived.Test.YtcffickkipicbaaGreatDoorRow0
import Derived.ArgAppend
set_option linter.unusedSimpArgs false
set_option linter.unusedVariables false
set_option linter.unnecessarySimpa false
namespace Go.Proofs.YtcffickkipicbaaGreatDoor
open Go.RowKit Go.Maps

/-- A fact, as a part that lies nowhere. -/
abbrev Res.pure (P : Prop) : Res where
  holds := fun F _ => F = [] ∧ P
  keeps := fun h _ _ => h
  inside := fun h x hx => by rw [h.1] at hx; cases hx
def Res.all : List Res → Res
  | [] => Res.pure True
  | r :: K => r.and (Res.all K)
section
variable {w0 w w2 : World} {F0 : List Nat} {L K : List Res} {r : Res}
theorem Sp.pureOpen {P : Prop} (S : Sp w0 F0 w (Res.pure P :: L)) : P ∧ Sp w0 F0 w L := by
  obtain ⟨F, h, _⟩ := S.take
  exact ⟨h.2, S.drop⟩
theorem Sp.pureShut {P : Prop} (S : Sp w0 F0 w L) (h : P) : Sp w0 F0 w (Res.pure P :: L) := S.gain (G := []) (Ext.refl [] w) ⟨rfl, h⟩ (by simp)
theorem Sp.allOpen : ∀ {K : List Res} {w0 w : World} {F0 : List Nat}, Sp w0 F0 w (Res.all K :: L) → Sp w0 F0 w (K ++ L)
  | [], _, _, _, S => S.drop
  | r :: K, _, _, _, S => by
    have S2 : Sp _ _ _ (r.and (Res.all K) :: L) := S
    exact S2.part.under fun h => Sp.allOpen h
theorem Sp.allShut : ∀ {K : List Res} {w0 w : World} {F0 : List Nat}, Sp w0 F0 w (K ++ L) → Sp w0 F0 w (Res.all K :: L)
  | [], _, _, _, S => S.pureShut trivial
  | r :: K, _, _, _, S => by
    have S2 : Sp _ _ _ (r :: (K ++ L)) := S
    have S3 : Sp _ _ _ (r :: Res.all K :: L) := S2.under fun h => Sp.allShut h
    exact S3.glue

/-! ### slices that begin inside their block -/
abbrev rowO (e k : Nat) (v : Value) (n : Nat) (xs : List Value) : Res where
  holds := fun F w => xs.length = n * k ∧ ((v = .slice none 0 0 ∧ n = 0 ∧ F = []) ∨ ∃ (g off cap : Nat) (C : Array Value), v = .slice (some ⟨g, off, none⟩) n cap ∧ F = [g] ∧ w.heap[g]? = some (.cells C e (0, 0)) ∧ off + cap * k ≤ C.size ∧ n ≤ cap ∧ cap ≤ maxLen ∧ ∀ j, j < xs.length → C[off + j]? = xs[j]?)
  keeps := by
    rintro F w w2 G ⟨h0, h⟩ hx hd
    refine ⟨h0, ?_⟩
    rcases h with h | ⟨g, off, cap, C, h1, h2, h3, h4⟩
    · exact .inl h
    · exact .inr ⟨g, off, cap, C, h1, h2, hx.heap h3 (hd g (by simp [h2])), h4⟩
  inside := by
    rintro F w ⟨_, h⟩ x hx
    rcases h with ⟨_, _, rfl⟩ | ⟨g, off, cap, C, _, rfl, h3, _⟩
    · cases hx
    · simp at hx
      subst hx
      exact heap_lt h3
variable {e k n b : Nat} {v : Value} {xs : List Value}
theorem Sp.rowONil (S : Sp w0 F0 w L) (e k : Nat) : Sp w0 F0 w (rowO e k (.slice none 0 0) 0 [] :: L) :=
  S.gain (G := []) (Ext.refl [] w) ⟨by simp, .inl ⟨rfl, rfl, rfl⟩⟩ (by simp)
theorem rowO_own {F : List Nat} {e k n base : Nat} {v : Value} {xs : List Value} (h : w.ownsRow base e k v n xs) : (rowO e k v n xs).holds v.ownBlock.toList w := by
  refine ⟨h.1, ?_⟩
  rcases h.2 with ⟨rfl, h0⟩ | ⟨g, cap, cur, rfl, _, hg, hc, hm, hs, ht⟩
  · exact .inl ⟨rfl, h0, rfl⟩
  · refine .inr ⟨g, 0, cap, cur, rfl, rfl, hg, by omega, hc, hm, fun j hj => ?_⟩
    rw [Nat.zero_add]
    have h1 : cur.toList[j]? = xs[j]? := by
      have h2 : (cur.toList.take xs.length)[j]? = xs[j]? := by
        rw [h.1, ht]
      rw [List.getElem?_take] at h2
      rw [if_pos hj] at h2
      exact h2
    simpa using h1
theorem Sp.rowForO (S : Sp w0 F0 w (rowO e k v n xs :: L)) : (v = .slice none 0 0 ∧ n = 0) ∨ ∃ g off cap, v = .slice (some ⟨g, off, none⟩) n cap ∧ n ≤ cap := by
  obtain ⟨F, ⟨_, h⟩, _⟩ := S.take
  rcases h with ⟨h1, h2, _⟩ | ⟨g, off, cap, C, h1, _, _, _, h5, _⟩
  · exact .inl ⟨h1, h2⟩
  · exact .inr ⟨g, off, cap, h1, h5⟩
theorem Sp.rowOCell {g off cap : Nat} (S : Sp w0 F0 w (rowO e k (.slice (some ⟨g, off, none⟩) n cap) n xs :: L)) (j : Nat) (u : Value) (hj : xs[j]? = some u) : w.cell? ⟨g, off + j, none⟩ = some u := by
  obtain ⟨F, ⟨_, h⟩, _⟩ := S.take
  rcases h with ⟨h1, _⟩ | ⟨g', off', cap', C, h1, _, h3, _, _, _, h7⟩
  · cases h1
  · cases h1
    have hlt : j < xs.length := (List.getElem?_eq_some_iff.1 hj).1
    simp [World.cell?, h3, h7 j hlt, hj]
/-- All but the first. -/
theorem Sp.rowOTail {g off cap : Nat} {x ys : List Value} (S : Sp w0 F0 w (rowO e k (.slice (some ⟨g, off, none⟩) (n + 1) cap) (n + 1) (x ++ ys) :: L)) (hx : x.length = k) :
    Sp w0 F0 w (rowO e k (.slice (some (if cap = 1 then ⟨g, off, none⟩ else ⟨g, off + k, none⟩)) n (cap - 1)) n ys :: L) := by
  refine S.as fun F h => ?_
  obtain ⟨h0, h⟩ := h
  rw [List.length_append, hx, Nat.add_mul, Nat.one_mul] at h0
  refine ⟨by omega, ?_⟩
  rcases h with ⟨h1, _⟩ | ⟨g', off', cap', C, h1, h2, h3, h4, h5, h6, h7⟩
  · cases h1
  · cases h1
    have hck : cap * k = (cap - 1) * k + k := by
      rw [← Nat.succ_mul]
      congr 1
      omega
    by_cases hc : cap = 1
    · subst hc
      have hn : n = 0 := by omega
      subst hn
      have hy : ys = [] := List.eq_nil_of_length_eq_zero (by omega)
      subst hy
      rw [if_pos rfl]
      exact .inr ⟨g, off, 0, C, rfl, h2, h3, by omega, by omega, by omega, by simp⟩
    · rw [if_neg hc]
      refine .inr ⟨g, off + k, cap - 1, C, rfl, h2, h3, by omega, by omega, by omega, fun j hj => ?_⟩
      have h8 := h7 (k + j) (by rw [List.length_append]; omega)
      rw [← Nat.add_assoc] at h8
      rw [h8, List.getElem?_append_right (by omega), hx]
      congr 1
      omega
theorem setCells_heap : ∀ (news : List Value) {w : World} {g off : Nat} {C : Array Value} {T : TypeId}, w.heap[g]? = some (.cells C T (0, 0)) → off + news.length ≤ C.size →
    ∃ C2 : Array Value, (w.setCells g off news).heap[g]? = some (.cells C2 T (0, 0)) ∧ C2.size = C.size ∧ (∀ j, j < off → C2[j]? = C[j]?) ∧ (∀ j, j < news.length → C2[off + j]? = news[j]?) ∧ Ext [g] w (w.setCells g off news)
  | [], w, g, off, C, T, h, _ => ⟨C, h, rfl, fun _ _ => rfl, fun j hj => by simp at hj, Ext.refl _ _⟩
  | x :: news, w, g, off, C, T, h, hl => by
    simp only [List.length_cons] at hl
    have h1 := setCell_heap (o := off) h x
    obtain ⟨C2, e1, e2, e3, e4, e5⟩ := setCells_heap news (off := off + 1) h1 (by simp; omega)
    refine ⟨C2, e1, by rw [e2]; simp, fun j hj => ?_, fun j hj => ?_, ?_⟩
    · rw [e3 j (by omega), Array.getElem?_setIfInBounds_ne (by omega)]
    · cases j with
      | zero =>
        rw [Nat.add_zero, e3 off (by omega), Array.getElem?_setIfInBounds_self_of_lt (by omega)]
        rfl
      | succ j =>
        simp only [List.length_cons] at hj
        have := e4 j (by omega)
        rw [Nat.add_assoc, Nat.add_comm 1 j] at this
        rw [this]
        rfl
    · exact ((Ext.refl [g] w).setCell (by simp) x).trans e5 (fun y hy => .inl hy)
/-- append(v, x): one element, lying in the box b. -/
theorem Sp.appendO (t ty : TypeId) (c : Array Value) (z : Value) (bytes : Nat) (hinf : (Tryz.prog.info? e).map (fun i => (i.zero, i.size, i.bytes)) = some (some z, k, bytes)) (hzk : z.cells.size = k) (ht : Tryz.prog.underlying t = some (.slice e)) (hk : 0 < k) (hby : bytes ≤ 1000)
    (hc : c.size = k) (hone : ∀ u ∈ c.toList, u.oneCell' = true) (hn : n < 10000000000) (S : Sp w0 F0 w (boxR b c e :: rowO e k v n xs :: L)) :
    ∃ g off cap w2, (Builtin.append_ #[t, t] ty #[v, .slice (some ⟨b, 0, none⟩) 1 1]).run Tryz.prog w = .ok (.slice (some ⟨g, off, none⟩) (n + 1) cap) w2 ∧ Sp w0 F0 w2 (boxR b c e :: rowO e k (.slice (some ⟨g, off, none⟩) (n + 1) cap) (n + 1) (xs ++ c.toList) :: L) := by
  obtain ⟨i0, hi0, hz0, hz1, hz2⟩ := info_parts hinf
  have hb := S.boxed
  obtain ⟨F, ⟨hlen, h⟩, hkm⟩ := S.pull1.take
  have hmul : (n + 1) * bytes ≤ 10000000000 * 1000 := Nat.mul_le_mul (by omega) hby
  rcases h with ⟨rfl, rfl, rfl⟩ | ⟨g, off, cap, C, rfl, rfl, h3, h4, h5, h6, h7⟩
  · have hx : xs = [] := List.eq_nil_of_length_eq_zero (by omega)
    subst hx
    obtain ⟨g, cap, w2, hr, ho, hg, hat, _⟩ := run_append_lies (P := Tryz.prog) w t ty 0 e i0 z k bytes ht hi0 hz0 hz1 hz2 hzk hk (.slice none 0 0) 0 [] ⟨by simp, .inl ⟨rfl, rfl⟩⟩ ⟨b, 0, none⟩ 1 1 c.toList (by simp [hc]) (World.news_of_block (fr := (0, 0)) hb) hone (by omega) (by unfold maxLen; omega) (by omega) (Nat.zero_le _) _ rfl
    have hgn : g = w.heap.size := by rcases hat with h | h; simp [Value.ownBlock] at h; exact h
    refine ⟨g, 0, cap, w2, hr, (hkm w2 (rowO e k (.slice (some ⟨g, 0, none⟩) (0 + 1) cap) (0 + 1) ([] ++ c.toList)) [g] (rowO_own (F := []) ho) ⟨⟨hg.os, hg.tape, hg.output, hg.size, fun j hj hn => hg.block j hj (fun e => by simp [Value.ownBlock] at e)⟩, fun x hx => ?_⟩).pull1⟩
    simp only [List.mem_singleton] at hx
    exact .inr (by omega)
  · by_cases hroom : n + 1 ≤ cap
    · have hnk : n * k + k ≤ cap * k := by
        have := Nat.mul_le_mul_right k hroom
        rw [Nat.add_mul, Nat.one_mul] at this
        exact this
      have hcl : c.toList.length = k := by simpa using hc
      obtain ⟨C2, e1, e2, e3, e4, e5⟩ := setCells_heap c.toList (off := off + n * k) h3 (by omega)
      have hr := run_append_room_cells (P := Tryz.prog) w t ty e i0 ht hi0 g off n cap ⟨b, 0, none⟩ 1 1 c.toList (by simp [hc, hz1]) (World.news_of_block (fr := (0, 0)) hb) hone hroom
        (fun j hj => by
          rw [hz1]
          have hlt : off + n * k + j < C.size := by omega
          simp [World.cell?, h3, Array.getElem?_eq_getElem hlt])
        (fun j hj => by simp [World.frozen?, h3])
      rw [hz1] at hr
      refine ⟨g, off, cap, _, hr, (hkm _ (rowO e k (.slice (some ⟨g, off, none⟩) (n + 1) cap) (n + 1) (xs ++ c.toList)) [g] ⟨by rw [List.length_append, hcl, hlen, Nat.add_mul, Nat.one_mul], .inr ⟨g, off, cap, C2, rfl, rfl, e1, by omega, hroom, h6, fun j hj => ?_⟩⟩ (Moved.of_ext e5)).pull1⟩
      rw [List.length_append] at hj
      by_cases hjx : j < xs.length
      · rw [e3 (off + j) (by omega), h7 j hjx, List.getElem?_append_left hjx]
      · have h8 := e4 (j - xs.length) (by omega)
        rw [show off + n * k + (j - xs.length) = off + j by omega] at h8
        rw [List.getElem?_append_right (by omega)]
        exact h8
    · obtain ⟨v2, w2, hr, ho, hg⟩ := run_append_arg_grows (P := Tryz.prog) w t ty e i0 z k bytes ht hi0 hz0 hz1 hz2 hzk hk ⟨g, off, none⟩ n cap xs hlen (fun j u hj => by
        have hlt : j < xs.length := (List.getElem?_eq_some_iff.1 hj).1
        rw [Addr.add_lit]
        simp [World.cell?, h3, h7 j hlt, hj]) ⟨b, 0, none⟩ 1 1 c.toList (by simp [hc]) (World.news_of_block (fr := (0, 0)) hb) (by omega) (by unfold maxLen; omega) (by omega)
      obtain ⟨g2, cap2, rfl, hb2, _⟩ := ho.form (by omega)
      refine ⟨g2, 0, cap2, w2, hr, ?_⟩
      exact (S.pull1.drop.gain (G := [g2]) (s := rowO e k (.slice (some ⟨g2, 0, none⟩) (n + 1) cap2) (n + 1) (xs ++ c.toList)) ⟨hg.os, hg.tape, hg.output, hg.size, fun j hj _ => hg.block j hj (by simp)⟩ (rowO_own (F := []) ho) (fun x hx => by
        simp only [List.mem_singleton] at hx
        omega)).pull1

/-! ### what is only read from now on -/
/-- Rows that lie at a slice value: k cells each. -/
structure Rom where
  v : Value
  k : Nat
  rows : List (List Value)
def Rom.at (q : Rom) (F : List Nat) (w : World) : Prop := ∃ a cap, q.v = .slice a q.rows.length cap ∧ q.rows.length ≤ cap ∧ cap ≤ maxLen ∧ (q.rows = [] ∨ ∃ b off, a = some ⟨b, off, none⟩ ∧ b ∈ F ∧ b < w.heap.size ∧ ∀ i r j u, q.rows[i]? = some r → r[j]? = some u → w.cell? ⟨b, off + i * q.k + j, none⟩ = some u)
theorem Rom.at_keeps {q : Rom} {F G : List Nat} (h : q.at F w) (hx : Ext G w w2) (hd : ∀ x ∈ F, x ∉ G) : q.at F w2 := by
  obtain ⟨a, cap, h1, h2, h3, h4⟩ := h
  refine ⟨a, cap, h1, h2, h3, ?_⟩
  rcases h4 with h4 | ⟨b, off, h5, h6, h7, h8⟩
  · exact .inl h4
  · refine .inr ⟨b, off, h5, h6, Nat.lt_of_lt_of_le h7 hx.size, fun i r j u hi hj => ?_⟩
    have := h8 i r j u hi hj
    rw [World.cell?_of_block (hx.block b h7 (hd b h6))]
    exact this
theorem Rom.at_more {q : Rom} {F G : List Nat} (h : q.at F w) (hs : ∀ x ∈ F, x ∈ G) : q.at G w := by
  obtain ⟨a, cap, h1, h2, h3, h4⟩ := h
  refine ⟨a, cap, h1, h2, h3, ?_⟩
  rcases h4 with h4 | ⟨b, off, h5, h6, h7⟩
  · exact .inl h4
  · exact .inr ⟨b, off, h5, hs b h6, h7⟩
abbrev romR (K : List Rom) : Res where
  holds := fun F w => (∀ q ∈ K, q.at F w) ∧ ∀ x ∈ F, x < w.heap.size
  keeps := fun h hx hd => ⟨fun q hq => Rom.at_keeps (h.1 q hq) hx hd, fun x hx2 => Nat.lt_of_lt_of_le (h.2 x hx2) hx.size⟩
  inside := fun h x hx => h.2 x hx
variable {K2 : List Rom} {q : Rom}
theorem Sp.romNil (S : Sp w0 F0 w L) : Sp w0 F0 w (romR [] :: L) := S.gain (G := []) (Ext.refl [] w) ⟨by simp, by simp⟩ (by simp)
theorem Sp.rom (S : Sp w0 F0 w (romR K2 :: L)) (hq : q ∈ K2) : ∃ F, q.at F w := by
  obtain ⟨F, h, _⟩ := S.take
  exact ⟨F, h.1 q hq⟩
theorem rom_row {rows : List (List Value)} (h : w.ownsRow 0 e k v rows.length rows.flatten) (hl : ∀ x ∈ rows, x.length = k) : (Rom.mk v k rows).at v.ownBlock.toList w := by
  rcases h.2 with ⟨rfl, h0⟩ | ⟨g, cap, cur, rfl, _, hg, hc, hm, hs, ht⟩
  · have : rows = [] := List.eq_nil_of_length_eq_zero h0
    subst this
    exact ⟨none, 0, rfl, Nat.le_refl _, by unfold maxLen; omega, .inl rfl⟩
  · refine ⟨some ⟨g, 0, none⟩, cap, rfl, hc, hm, .inr ⟨g, 0, rfl, by simp [Value.ownBlock], heap_lt hg, fun i r j u hi hj => ?_⟩⟩
    have hj2 : j < k := by rw [← hl r (List.mem_of_getElem? hi)]; exact (List.getElem?_eq_some_iff.1 hj).1
    have h := World.ownsRow.cells h (g := g) rfl (i * k + j) u (by rw [cells_take rows k i r hl hi j hj2, hj])
    have hadd : (⟨g, 0, none⟩ : Addr).add (i * k + j) = ⟨g, 0 + i * k + j, none⟩ := by unfold Addr.add; split <;> simp_all [Nat.add_assoc]
    rw [hadd] at h
    exact h
/-- A row that was laid is only read from now on. -/
theorem Sp.romMore {rows : List (List Value)} (S : Sp w0 F0 w (rowR e k v rows.length rows.flatten :: romR K2 :: L)) (hl : ∀ x ∈ rows, x.length = k) : Sp w0 F0 w (romR (⟨v, k, rows⟩ :: K2) :: L) := by
  refine S.glue.as fun F h => ?_
  obtain ⟨G, H, ⟨rfl, h1⟩, ⟨h2, h3⟩, h4, rfl⟩ := h
  refine ⟨fun q hq => ?_, fun x hx => ?_⟩
  · rcases List.mem_cons.1 hq with rfl | hq
    · exact Rom.at_more (rom_row h1 hl) fun x hx => List.mem_append_left _ hx
    · exact Rom.at_more (h2 q hq) fun x hx => List.mem_append_right _ hx
  · rcases List.mem_append.1 hx with hx | hx
    · exact (h1.lt x (by simpa using hx)).2
    · exact h3 x hx
end
end Go.Proofs.YtcffickkipicbaaGreatDoor
