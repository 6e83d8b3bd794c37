/- strings.Builder: WriteByte; and its words in parts. Conditions: the lengths fit. -/
import Derived.Test.YtapenolbbofjkaaGreatDoorBld
import Derived.Test.YtapenolbbofjkaaGreatDoorSp
import Derived.Lib.FrozenHead2
set_option linter.unusedSimpArgs false
set_option linter.unusedVariables false
set_option linter.unnecessarySimpa false
namespace Go.Proofs.YtapenolbbofjkaaGreatDoor
open Go.RowKit Go.Maps

/-- One byte laid behind a row of bytes of which a beginning may be frozen. -/
theorem append_byteF (w : World) (v : Value) (l : Bs) (c : UInt8) (q : Nat) (hq : w.heap[q]? = some (.cells #[bv c] 5 (0, 0))) (hown : w.ownsRowF 0 5 1 v l.length (l.map bv)) (hlen : l.length + 1 ≤ 100000000000000) :
    ∃ v2 w2, (∀ ty, (Builtin.append_ #[117, 117] ty #[v, .slice (some ⟨q, 0, none⟩) 1 1]).run Tryz.prog w = .ok v2 w2) ∧ w2.ownsRowF 0 5 1 v2 (l ++ [c]).length ((l ++ [c]).map bv) ∧ Ext v.ownBlock.toList w w2 ∧
      (∀ k, v2.ownBlock = some k → v.ownBlock = some k ∨ w.heap.size ≤ k) ∧ ∃ a n c, v2 = .slice a n c := by
  obtain ⟨i0, hi0, hz0, hz1, hz2⟩ := info_parts infoByte
  have form : ∀ {w' : World} {v' : Value} {n : Nat} {xs : List Value}, w'.ownsRowF 0 5 1 v' n xs → ∃ a n c, v' = .slice a n c := fun h => by
    rcases h.2 with ⟨hv, _⟩ | ⟨g, cap, cur, fz, hv, _⟩
    · exact ⟨_, _, _, hv⟩
    · exact ⟨_, _, _, hv⟩
  have hnews : ∀ (j : Nat) (u : Value), [bv c][j]? = some u → w.cell? ((⟨q, 0, none⟩ : Addr).add j) = some u := fun j u h => by
    have hj : j = 0 := by
      have := (List.getElem?_eq_some_iff.1 h).1
      simpa using this
    subst hj
    have hadd : (⟨q, 0, none⟩ : Addr).add 0 = ⟨q, 0, none⟩ := by unfold Addr.add; split <;> simp_all
    rw [hadd, box_cell hq]
    simpa using h
  have hone : ∀ u ∈ [bv c], u.oneCell' = true := by simp [Value.oneCell']
  have eL : (l ++ [c]).map bv = l.map bv ++ [bv c] := by simp
  have eN : (l ++ [c]).length = l.length + 1 := by simp
  rw [eL, eN]
  rcases hown.2 with ⟨rfl, h0⟩ | ⟨g, cap, cur, fz, rfl, hbg, hg, hfz, hnc, hcm, hcs, htake⟩
  · have hl : l = [] := List.eq_nil_of_length_eq_zero h0
    subst hl
    have h1 : w.ownsRowF w.heap.size 5 1 (.slice none 0 0) 0 [] := ⟨by simp, .inl ⟨rfl, rfl⟩⟩
    have hr0 := fun ty => run_append_ownF (P := Tryz.prog) w w.heap.size 117 ty 5 i0 (.int .u8 0) 1 1 Tryz.underlying117 hi0 hz0 hz1 hz2 rfl (by decide) (.slice none 0 0) 0 [] h1 ⟨q, 0, none⟩ 1 1 [bv c] rfl hnews hone (by simp [maxLen]) (by decide) (Nat.le_refl _)
    obtain ⟨v2, w2, hr, h2, h3, _⟩ := hr0 0
    have h2' : w2.ownsRowF 0 5 1 v2 (0 + 1) ([] ++ [bv c]) := by
      refine ⟨h2.1, ?_⟩
      rcases h2.2 with h | ⟨g, cap, cur, fz, a1, a2, a3⟩
      · exact .inl h
      · exact .inr ⟨g, cap, cur, fz, a1, Nat.zero_le _, a3⟩
    refine ⟨v2, w2, fun ty => hr, h2', (Ext.refl _ w).grown h3 (by simp [Value.ownBlock]), fun k hk => .inr ?_, form h2'⟩
    rcases h2.2 with ⟨h, _⟩ | ⟨g, cap, cur, fz, a1, a2, _⟩
    · rw [h] at hk; simp [Value.ownBlock] at hk
    · rw [a1] at hk
      simp only [Value.ownBlock, Option.some.injEq] at hk
      omega
  · have hlen2 : (l.map bv ++ [bv c]).length = (l.length + 1) * 1 := by simp
    have hxl : (l.map bv).length = l.length := by simp
    have hcs' : cur.size = cap := by simpa using hcs
    by_cases hroom : l.length + 1 ≤ cap
    · have hr := fun ty => run_append_roomF (P := Tryz.prog) w 117 ty 5 i0 Tryz.underlying117 hi0 g l.length cap cur fz hg (by rw [hz1]; exact hfz) ⟨q, 0, none⟩ 1 1 [bv c] (by rw [hz1]; rfl) hnews hone hroom (by rw [hz1]; simp; omega)
      rw [hz1] at hr
      have hO : World.ownsRowF (w.setRow g (cur.toList.take (l.length * 1) ++ [bv c] ++ cur.toList.drop (l.length * 1 + [bv c].length)).toArray) 0 5 1 (.slice (some ⟨g, 0, none⟩) (l.length + 1) cap) (l.length + 1) (l.map bv ++ [bv c]) := by
        refine ⟨hlen2, .inr ⟨g, cap, _, fz, rfl, Nat.zero_le _, setRow_heap w g cur _ _ _ hg, by omega, hroom, hcm, ?_, ?_⟩⟩
        · simp only [List.size_toArray, List.length_append, List.length_take, List.length_drop, Array.length_toList, List.length_cons, List.length_nil]
          omega
        · rw [htake, ← hlen2]
          exact List.take_left
      refine ⟨_, _, hr, hO, ⟨rfl, rfl, rfl, by simp, fun k _ hk => setRow_other w g k _ (fun e => hk (by simp [Value.ownBlock, e]))⟩, fun k hk => .inl ?_, ⟨_, _, _, rfl⟩⟩
      simp only [Value.ownBlock] at hk ⊢
      exact hk
    · have holds : ∀ j u, (l.map bv)[j]? = some u → w.cell? ((⟨g, 0, none⟩ : Addr).add j) = some u := hown.cells (g := g) rfl
      have hr := fun ty => run_append_grow (P := Tryz.prog) w 117 ty 5 i0 (.int .u8 0) Tryz.underlying117 hi0 hz0 ⟨g, 0, none⟩ l.length cap (l.map bv) (by rw [hz1]; simp) holds ⟨q, 0, none⟩ 1 1 [bv c] (by rw [hz1]; rfl) hnews (by omega) (by omega) (growslice_fits (by omega) (by rw [hz2]; omega))
      have hge := grownCap_ge w (l.length + 1) cap 5
      have hcm2 : grownCap w (l.length + 1) cap 5 ≤ maxLen := grownCap_le_maxLen w _ cap 5 (by simp [maxLen]; omega)
      refine ⟨_, _, hr, ⟨hlen2, .inr ⟨w.heap.size, _, _, (0, 0), rfl, Nat.zero_le _, heap_alloc_new w.drew _, Nat.zero_le _, hge, hcm2, ?_, ?_⟩⟩, ⟨rfl, rfl, rfl, by simp, fun k hk _ => Below.heap_alloc w.drew _ _ hk⟩, fun k hk => .inr ?_, ⟨_, _, _, rfl⟩⟩
      · have hzz : (Value.int IntKind.u8 0).cells.size = 1 := rfl
        simp only [Array.size_append, List.size_toArray, size_zeroCells, hzz, List.length_map, List.length_cons, List.length_nil]
        omega
      · simp only [Array.toList_append, List.append_assoc]
        rw [← List.append_assoc, ← hlen2]
        have : (l.map bv).toArray.toList ++ [bv c].toArray.toList = l.map bv ++ [bv c] := by simp
        rw [this]
        exact List.take_left
      · simp only [Value.ownBlock, Option.some.injEq] at hk
        omega

set_option maxRecDepth 100000 in
set_option maxHeartbeats 1000000 in
theorem writeByte_any (T b : Nat) (F : List Nat) (l : Bs) (c : UInt8) (w : World) (hT : IsOut T) (h : Bld T w b F l) (hlen : l.length + 1 ≤ 100000000000000) :
    Calls Tryz.prog 213 #[.pointer (some ⟨b, 0, none⟩), .int .u8 c.toNat] w fun e w2 => e = .returned (.nilIface) ∧ ∃ F2, Bld T w2 b F2 (l ++ [c]) ∧ Moved F w w2 F2 := by
  have H := Lib.hid h
  have HL := Lib.hid hlen
  clear h hlen
  go_enter Tryz.func213, Tryz.ntmps213
  go_wp2_with fail
  refine (check_any T b F l w hT H.out).mono ?_
  rintro e w0 ⟨rfl, v, hb0, hr0, hn, hF, hx0⟩
  have HALL := Lib.hid hx0
  have c0 : w0.cell? ⟨b, 1, none⟩ = some v := by rw [box_cell hb0]; rfl
  have hbw : b < w0.heap.size := heap_lt hb0
  -- the box of the byte
  have hx1 : Ext [] w0 (w0.alloc (.cells #[bv c] 5)) := (Ext.refl [] w0).alloc _
  have hb : (w0.alloc (.cells #[bv c] 5)).heap[b]? = some (.cells #[.pointer (some ⟨b, 0, none⟩), v] T (0, 0)) := hx1.heap hb0 (by simp)
  have hr := rowF_ext hr0 hx1 (by simp)
  obtain ⟨v2, w2, hrun, hr2, hg, hv2, hsl⟩ := append_byteF (w0.alloc (.cells #[bv c] 5)) v l c w0.heap.size (heap_alloc_new _ _) hr HL.out
  have hb2 : w2.heap[b]? = some (.cells #[.pointer (some ⟨b, 0, none⟩), v] T (0, 0)) := hg.heap hb (by simpa using hn)
  have d1 : w2.cell? ⟨b, 1, none⟩ = some v := by rw [box_cell hb2]; rfl
  have f1 : w2.frozen? ⟨b, 1, none⟩ = false := box_free hb2
  have hne := Lib.ownBlock_neF hr2 hb2 hT.ne
  have HB : Hid (∃ F2, Bld T (w2.setCell ⟨b, 1, none⟩ v2) b F2 (l ++ [c]) ∧ Moved F w (w2.setCell ⟨b, 1, none⟩ v2) F2) := by
    have hx2 : Ext [b] w2 (w2.setCell ⟨b, 1, none⟩ v2) := (Ext.refl [b] w2).setCell (by simp) _
    refine ⟨b :: v2.ownBlock.toList, ⟨_, v2, .inr rfl, by rw [heap_setCell_same hb2]; rfl, rowF_ext hr2 hx2 (fun k hk => by simp; rintro rfl; exact hne hk), hne, rfl⟩, ⟨?_, ?_⟩⟩
    · rw [hF]
      exact (((hx0.mono (by simp)).trans hx1 (by simp)).trans hg (fun x hx => .inl (List.mem_cons_of_mem _ hx))).trans hx2 (by simp)
    · intro x hx'
      rw [hF]
      simp only [List.mem_cons, Option.mem_toList] at hx' ⊢
      rcases hx' with rfl | hx'
      · exact .inl (.inl rfl)
      · rcases hv2 x hx' with h | h
        · exact .inl (.inr h)
        · exact .inr (by have := hx0.size; simp at h; omega)
  obtain ⟨a2, n2, cap2, rfl⟩ := hsl
  have HRUN := Lib.hid hrun
  clear hr2 hg hv2 hb hb2 hr hn hx0 hne hF hrun hb0 hr0 hx1
  go_wp2_with (at_builtin; refine wpList_append_run (by rfl) (by rfl) (by rfl) (by rfl) (HRUN.out _) ?_)
  go_ret
  exact ⟨rfl, HB.out⟩
abbrev bldW (T b : Nat) (l : Bs) : Res where
  holds := fun F w => Bld T w b F l
  keeps := fun h hx hd => h.ext hx hd
  inside := fun h => h.lt
section
variable {w0 w : World} {F0 : List Nat} {L : List Res} {T b : Nat} {l s : Bs}
theorem Bld.fresh0 (w : World) (T : TypeId) : Bld T (w.alloc (.cells #[.pointer none, .slice none 0 0] T)) w.heap.size [w.heap.size] [] :=
  ⟨_, _, .inl rfl, heap_alloc_new _ _, World.ownsRowF_nil _ _ _ _, by simp [Value.ownBlock], by simp [Value.ownBlock]⟩
theorem Sp.bldNew (S : Sp w0 F0 w L) (T : TypeId) : Sp w0 F0 (w.alloc (.cells #[.pointer none, .slice none 0 0] T)) (bldW T w.heap.size [] :: L) :=
  S.gain ((Ext.refl [] w).alloc _) (Bld.fresh0 w T) (by simp)
theorem writeByteS (c : UInt8) (S : Sp w0 F0 w (bldW 119 b l :: L)) (hl : l.length ≤ 1000000000000) :
    Calls Tryz.prog 213 #[.pointer (some ⟨b, 0, none⟩), .int .u8 c.toNat] w fun e w2 => e = .returned .nilIface ∧ Sp w0 F0 w2 (bldW 119 b (l ++ [c]) :: L) := by
  obtain ⟨F, h, hk⟩ := S.take
  exact (writeByte_any 119 b F l c w isOutBld h (by omega)).mono fun _ _ ⟨he, F2, h2, m⟩ => ⟨he, hk _ _ F2 h2 m⟩
theorem stringS (S : Sp w0 F0 w (bldW T b l :: L)) (h0 : l ≠ []) :
    Calls Tryz.prog 78 #[.pointer (some ⟨b, 0, none⟩)] w fun e w2 => e = .returned (.string ⟨l.toArray⟩) ∧ Sp w0 F0 w2 L := by
  obtain ⟨F, h, hk⟩ := S.take
  refine (bldString_any T b F l w h h0).mono fun _ w2 ⟨he, hx⟩ => ⟨he, ?_⟩
  exact (hk w2 ⟨fun F _ => F = [], fun h _ _ => h, fun h x hx => by rw [h] at hx; cases hx⟩ [] rfl ⟨hx, by simp⟩).drop
end
end Go.Proofs.YtapenolbbofjkaaGreatDoor
