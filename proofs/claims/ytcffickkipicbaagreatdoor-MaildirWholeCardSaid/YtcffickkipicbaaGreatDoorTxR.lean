/- Slices of texts that are only read, and parts of them; append of them. No condition but that the lengths fit. -/
import Derived.Test.YtcffickkipicbaaGreatDoorRoO
import Derived.Test.YtcffickkipicbaaGreatDoorSame
import Derived.Test.YtcffickkipicbaaGreatDoorRDk1
/-! TxR -/
set_option linter.unusedSimpArgs false
set_option linter.unusedVariables false
set_option linter.unnecessarySimpa false
namespace Go.Proofs.YtcffickkipicbaaGreatDoor
open Go.RowKit Go.Maps

def txRow (s : Bs) : List Value := [.string ⟨s.toArray⟩]
abbrev txK (u : Value) (l : List Bs) : Rom := ⟨u, 1, l.map txRow⟩
section
variable {w0 w : World} {L : List Res} {F0 : List Nat} {v : Value} {K : List Rom} {a : Option Addr} {n cap : Nat} {rows : List (List Value)} {l : List Bs}
theorem Sp.rowMadeR (S : Sp w0 F0 w L) (e k : Nat) : Sp w0 F0 (w.alloc (.cells #[] e)) (rowR e k (.slice (some ⟨w.heap.size, 0, none⟩) 0 0) 0 [] :: L) := S.rowLaid e k 0 [] (by simp) (by unfold maxLen; omega)
theorem Rom.sub {F : List Nat} (h : (⟨.slice a n cap, 1, rows⟩ : Rom).at F w) {lo hi : Nat} (h1 : lo ≤ hi) (h2 : hi ≤ rows.length) : (⟨.slice (if cap = lo then a else a.map (·.add (lo * 1))) (hi - lo) (cap - lo), 1, (rows.take hi).drop lo⟩ : Rom).at F w := by
  obtain ⟨a2, cap2, e1, e2, e3, e4⟩ := h
  dsimp only at e1 e2 e4
  simp only [Value.slice.injEq] at e1
  obtain ⟨rfl, rfl, rfl⟩ := e1
  have hlen : ((rows.take hi).drop lo).length = hi - lo := by rw [List.length_drop, List.length_take]; omega
  refine ⟨_, cap - lo, by dsimp only; rw [hlen], by dsimp only; rw [hlen]; omega, by omega, ?_⟩
  by_cases hz : hi = lo
  · exact .inl (List.eq_nil_of_length_eq_zero (by rw [hlen]; omega))
  · rcases e4 with e4 | ⟨b, off, rfl, hb1, hb2, e6⟩
    · exfalso
      rw [e4] at h2
      simp at h2
      omega
    · refine .inr ⟨b, off + lo, ?_, hb1, hb2, fun i r j u hi2 hj => ?_⟩
      · rw [if_neg (by omega)]
        simp [Addr.add]
      · dsimp only at hi2 ⊢
        rw [List.getElem?_drop, List.getElem?_take] at hi2
        split at hi2
        · have := e6 _ _ _ _ hi2 hj
          rw [show off + lo + i * 1 + j = off + (lo + i) * 1 + j by omega]
          exact this
        · cases hi2
theorem Sp.romCut (S : Sp w0 F0 w (romR K :: L)) (h : (⟨.slice a n cap, 1, rows⟩ : Rom) ∈ K) {lo hi : Nat} (h1 : lo ≤ hi) (h2 : hi ≤ rows.length) : Sp w0 F0 w (romR (⟨.slice (if cap = lo then a else a.map (·.add (lo * 1))) (hi - lo) (cap - lo), 1, (rows.take hi).drop lo⟩ :: K) :: L) :=
  S.as fun F h3 => ⟨fun q hq => by
    rcases List.mem_cons.1 hq with rfl | hq
    · exact Rom.sub (h3.1 _ h) h1 h2
    · exact h3.1 q hq, h3.2⟩
theorem strs_size (W : World) : (sizeOf (Tryz.prog.elem 38)).run Tryz.prog W = .ok 1 W := by kernel_rfl
theorem strs_from {k : Nat} (hk : k ≤ n) (W : World) : (Instr.sliceAt 38 (.slice a n cap) (some (.int .i64 (k : Int))) none none).run Tryz.prog W = .ok (.slice (if cap = k then a else a.map (·.add (k * 1))) (n - k) (cap - k)) W := by
  rw [run_sliceAt_slice (P := Tryz.prog) (w := W) 38 (.slice a n cap) (some (.int .i64 (k : Int))) none none (by kernel_rfl), run_slice_l (P := Tryz.prog) (w := W) 38 a n cap (by kernel_rfl) .i64 (k : Int) (by omega) (by omega), strs_size]
  rfl
theorem strs_to {k : Nat} (hk : k ≤ cap) (W : World) : (Instr.sliceAt 38 (.slice a n cap) none (some (.int .i64 (k : Int))) none).run Tryz.prog W = .ok (.slice (if cap = 0 then a else a.map (·.add (0 * 1))) (k - 0) (cap - 0)) W := by
  rw [run_sliceAt_slice (P := Tryz.prog) (w := W) 38 (.slice a n cap) none (some (.int .i64 (k : Int))) none (by kernel_rfl), run_slice_h (P := Tryz.prog) (w := W) 38 a n cap (by kernel_rfl) .i64 (k : Int) (by omega) (by omega), strs_size]
  rfl
theorem Sp.romTx (S : Sp w0 F0 w (romR K :: L)) (h : txK v l ∈ K) : TextsAt w v l := by
  obtain ⟨F, a, cap, h1, h2, h3, h4⟩ := S.rom h
  refine ⟨a, cap, by simpa using h1, by simp only [List.length_map] at h2; omega, ?_⟩
  rcases h4 with h4 | ⟨b, off, h5, _, _, h6⟩
  · exact .inl h4
  · exact .inr ⟨b, off, h5, fun i r hr j u hu => h6 i r j u hr hu⟩
theorem Sp.romCap (S : Sp w0 F0 w (romR K :: L)) (h : txK (.slice a n cap) l ∈ K) : l.length ≤ cap := by
  obtain ⟨F, a2, cap2, h1, h2, _⟩ := S.rom h
  have h1' : Value.slice a n cap = .slice a2 (l.map txRow).length cap2 := h1
  simp only [Value.slice.injEq] at h1'
  obtain ⟨rfl, _, rfl⟩ := h1'
  simpa using h2
theorem tx_len : ∀ x ∈ l.map txRow, x.length = 1 := by
  intro x hx
  obtain ⟨e, _, rfl⟩ := List.mem_map.1 hx
  rfl
theorem tx_one : ∀ u ∈ (l.map txRow).flatten, u.oneCell' = true := by
  intro u hu
  obtain ⟨x, hx, h2⟩ := List.mem_flatten.1 hu
  obtain ⟨e, _, rfl⟩ := List.mem_map.1 hx
  simp only [txRow, List.mem_cons, List.not_mem_nil, or_false] at h2
  subst h2
  rfl
theorem Sp.romForm (S : Sp w0 F0 w (romR K :: L)) (h : txK v l ∈ K) : ∃ a cap, v = .slice a l.length cap := by
  obtain ⟨F, a, cap, h1, _⟩ := S.rom h
  exact ⟨a, cap, by simpa using h1⟩
theorem tx_more (x : Bs) (S : Sp w0 F0 w (rowR 9 1 v (1 + (l.map txRow).length) ([.string ⟨x.toArray⟩] ++ (l.map txRow).flatten) :: romR K :: L)) : Sp w0 F0 w (romR (txK v (x :: l) :: K) :: L) := by
  have h1 : 1 + (l.map txRow).length = ((x :: l).map txRow).length := by simp; omega
  have h2 : [.string ⟨x.toArray⟩] ++ (l.map txRow).flatten = ((x :: l).map txRow).flatten := by simp [txRow]
  rw [h1, h2] at S
  exact S.romMore tx_len
theorem tx_more2 {l2 : List Bs} (S : Sp w0 F0 w (rowR 9 1 v (0 + (l.map txRow).length + (l2.map txRow).length) ([] ++ (l.map txRow).flatten ++ (l2.map txRow).flatten) :: romR K :: L)) : Sp w0 F0 w (romR (txK v (l ++ l2) :: K) :: L) := by
  have h1 : 0 + (l.map txRow).length + (l2.map txRow).length = ((l ++ l2).map txRow).length := by simp
  have h2 : [] ++ (l.map txRow).flatten ++ (l2.map txRow).flatten = ((l ++ l2).map txRow).flatten := by simp
  rw [h1, h2] at S
  exact S.romMore tx_len
theorem enc_flat : ∀ l : List Bs, l.map encStr = (l.map txRow).flatten
  | [] => rfl
  | x :: r => by
    rw [List.map_cons, List.map_cons, List.flatten_cons, enc_flat r]
    rfl
theorem Sp.textsRom (S : Sp w0 F0 w (textsR v l :: romR K :: L)) : Sp w0 F0 w (romR (txK v l :: K) :: L) := by
  have h : (l.map txRow).length = l.length := List.length_map _
  have S2 : Sp w0 F0 w (rowR 9 1 v (l.map txRow).length (l.map txRow).flatten :: romR K :: L) := by rw [h, ← enc_flat]; exact S
  exact S2.romMore tx_len
theorem texts_of (S : Sp w0 F0 w (textsR v l :: L)) : TextsAt w v l := by
  obtain ⟨F, ⟨_, h⟩, _⟩ := S.take
  exact Strs.texts h
end
end Go.Proofs.YtcffickkipicbaaGreatDoor
