/- Ranging over a map while elements that are there are written anew; as parts of memory. No condition. -/
import Derived.Test.YtcffickkipicbaaGreatDoorSpD
set_option linter.unusedSimpArgs false
set_option linter.unusedVariables false
set_option linter.unnecessarySimpa false
namespace Go.Proofs.YtcffickkipicbaaGreatDoor
open Go.RowKit Go.Maps
open Go.ChangeMaps Go.MapKept Go.WideShapes
open Go.WideElems (Fit rd rg pl rd_key rd_val rg_of other_key)

theorem setBlock_inj {w : World} {b : Nat} {o es es2 : Array MapEntry} {c c1 c2 : Nat} (hb : w.heap[b]? = some (.map o c)) (h : setBlock w b (.map es c1) = setBlock w b (.map es2 c2)) : es = es2 ∧ c1 = c2 := by
  have h1 := heap_setBlock_same hb (.map es c1)
  have h2 := heap_setBlock_same hb (.map es2 c2)
  rw [h, h2] at h1
  simp only [Option.some.injEq, Obj.map.injEq] at h1
  exact ⟨h1.1.symm, h1.2.symm⟩
section
variable {V : Type} {enc : V → Value} {P : Program} {t k e : TypeId} {w w2 : World} {b r cnt : Nat} {F L : Mp V}
theorem RangeOf.sub (h : RangeOf P k enc w b r F L cnt) : ∀ p ∈ L, p ∈ F := by
  obtain ⟨left, _, rfl⟩ := h
  exact fun p hp => (List.mem_filter.1 hp).1
theorem RangeOf.apart (h : RangeOf P k enc w b r F L cnt) (hk : Keyed P k) : L.Pairwise fun p q => p.1 ≠ q.1 := by
  have := rising_ne (h.owns.sorted hk)
  obtain ⟨left, _, rfl⟩ := h
  exact this.filter _
/-- A store at a key that is there, and no longer to come. -/
theorem RangeOf.put (h : RangeOf P k enc w b r F L cnt) (hk : Keyed P k) (ht : P.underlying t = some (.map k e)) (hn : F.length < maxLen) {key : Value} {x : Bs} (hx : keyOf P k key = some (.string x)) (hin : ∃ c, (x, c) ∈ F) (hnl : ∀ p ∈ L, p.1 ≠ x) (v : V) :
    ∃ w2 L2, (Instr.mapUpdate t (.map (some b)) key (enc v)).run P w = .ok () w2 ∧ RangeOf P k enc w2 b r (F.put x v) L2 cnt ∧ Ext [b] w w2 ∧ w2.heap.size = w.heap.size ∧ (∀ p, p ∈ L2 ↔ p ∈ L) := by
  have hne := h.ne
  obtain ⟨left, ⟨es, clock, since, seen, c0, hb, Ft, hs, hD, hr, hold, hcnt, hl1, hl2, hsc, hsk⟩, rfl⟩ := h
  have hsz : es.size < maxLen := Nat.lt_of_le_of_lt hs hn
  have hown : w.ownsMap P k heldElem b F.length (F.data enc) := ⟨es, clock, hb, Ft, hs, hD⟩
  obtain ⟨es', clock', hrun, F', hput, _⟩ := Maps.fit_store (R' := heldElem) hk ht hb Ft hsz (fun _ _ _ _ hz => hz) hx (val := enc v) (yv := (.held (enc v), [])) rfl
  rcases hk.find w hx es.toList Ft.keys with ⟨h1, h2⟩ | ⟨j, e0, h1, h2, h3⟩
  · exfalso
    obtain ⟨c, hc⟩ := hin
    injection hD with hD
    have hm : (Lit.string x, DataW.held (enc c)) ∈ F.map fun p => (Lit.string p.1, DataW.held (enc p.2)) := List.mem_map_of_mem (f := fun p : Bs × V => (Lit.string p.1, DataW.held (enc p.2))) hc
    rw [hD, mem_sorted] at hm
    obtain ⟨y, hy, hye⟩ := List.mem_map.1 hm
    obtain ⟨z, hz⟩ := Ft.reads y hy
    rw [rg_of hz] at hye
    have hkz := rd_key hz
    rw [hye] at hkz
    exact h2 y hy (hk.inj hkz hx)
  · have hj : es[j]? = some e0 := by simpa using h2
    have hrun2 : (Instr.mapUpdate t (.map (some b)) key (enc v)).run P w = .ok () (setBlock w b (.map (es.modify j fun e' => { e' with key := key, val := enc v }) clock)) := by
      simp [Instr.mapUpdate, run_underlying ht, MapKept.run_getObj_map hb, hk.check w false hx, h1, hj, h3, hk.stays w hx, MapKept.run_setObj_map _ hb, Result.andThen, setBlock]
    have heq : setBlock w b (.map es' clock') = setBlock w b (.map (es.modify j fun e' => { e' with key := key, val := enc v }) clock) := by
      rw [hrun] at hrun2
      injection hrun2
    obtain ⟨he1, he2⟩ := setBlock_inj hb heq
    have hlist : es'.toList = es.toList.set j { e0 with key := key, val := enc v } := by rw [he1, Array.toList_modify, modify_eq_set _ _ _ _ h2]
    have hjl : j < es.toList.length := (List.getElem?_eq_some_iff.1 h2).1
    have hmem : ∀ y ∈ es'.toList, y = { e0 with key := key, val := enc v } ∨ y ∈ es.toList := fun y hy => by
      rw [hlist] at hy
      rcases List.mem_or_eq_of_mem_set hy with hy | hy
      · exact .inr hy
      · exact .inl hy
    have he0 : e0 ∈ es.toList := List.mem_of_getElem? h2
    obtain ⟨y0, hy0⟩ := Ft.reads e0 he0
    have hk0 : (rg P k heldElem e0).1 = .string x := by
      have := rd_key hy0
      rw [h3, hx] at this
      rw [rg_of hy0]
      exact (Option.some.inj this).symm
    have hrg : ∀ bn, (rg P k heldElem (⟨key, enc v, bn⟩ : MapEntry)).1 = .string x := fun bn => by
      rw [rg_of (WideElems.rd_mk (yv := (.held (enc v), [])) hx rfl)]
    have hborn : es'.toList.map (·.born) = es.toList.map (·.born) := by
      rw [hlist, List.map_set]
      have : (es.toList.map (·.born))[j]? = some e0.born := by simp [h2]
      exact List.ext_getElem? fun i => by
        rw [List.getElem?_set]
        split
        · rename_i hij
          subst hij
          have hjs : j < es.size := by simpa using hjl
          rw [this, if_pos (by simpa using hjs)]
        · rfl
    have hsF : MapOf P k enc (setBlock w b (.map es' clock')) b (F.put x v) := by
      refine MapOf.tight (n := F.length + 1) ⟨es', clock', heap_setBlock_same hb _, F', ?_, ?_⟩
      · have : es'.size = es.size := by rw [he1]; simp
        omega
      · rw [← Mp.data_put, hD, DataW.put_eq, hput]
    obtain ⟨es3, clock3, hb3, F3, hs3, hD3⟩ := hsF
    have hee := (heap_setBlock_same hb (.map es' clock')).symm.trans hb3
    simp only [Option.some.injEq, Obj.map.injEq] at hee
    obtain ⟨rfl, rfl⟩ := hee
    have hcl : clock' = clock := he2
    refine ⟨_, leftIn left (F.put x v), hrun, ⟨left, ⟨es', clock', since, seen, c0, hb3, F3, hs3, hD3, (heap_setBlock_other hb _ hne).trans hr, fun y hy => ?_, ?_, fun y hy => ?_, fun kl hkl => ?_, hsc, by rw [hcl]; exact hsk⟩, rfl⟩, ?_, ?_, fun p => ⟨fun hp => ?_, fun hp => ?_⟩⟩
    · rcases hmem y hy with rfl | hy
      · exact hold e0 he0
      · exact hold y hy
    · rw [← hcnt]
      have e1 : ∀ a : Array MapEntry, (leftOf a seen).size = ((a.toList.map (·.born)).filter fun q => !seen.contains q).length := fun a => by
        unfold leftOf
        rw [← Array.length_toList, Array.toList_filter, List.filter_map, List.length_map]
        rfl
      rw [e1, e1, hborn]
    · rcases hmem y hy with rfl | hy
      · rw [hrg, ← hk0]
        exact hl1 e0 he0
      · exact hl1 y hy
    · obtain ⟨y, hy, hyk⟩ := hl2 kl hkl
      by_cases hyx : y.key = key
      · refine ⟨{ e0 with key := key, val := enc v }, ?_, ?_⟩
        · rw [hlist]; exact List.mem_iff_getElem.2 ⟨j, by simpa using hjl, by simp⟩
        · obtain ⟨z, hz⟩ := Ft.reads y hy
          have := rd_key hz
          rw [hyx, hx] at this
          rw [hrg, ← hyk, rg_of hz]
          exact Option.some.inj this
      · refine ⟨y, ?_, hyk⟩
        rw [hlist]
        obtain ⟨i, hi⟩ := List.getElem?_of_mem hy
        refine List.mem_of_getElem? (i := i) ?_
        rw [List.getElem?_set]
        split
        · rename_i hij
          subst hij
          rw [h2] at hi
          cases hi
          exact absurd h3 hyx
        · exact hi
    · exact (turned_ext ⟨es, clock, es', clock', hb, rfl⟩).1
    · exact (turned_ext ⟨es, clock, es', clock', hb, rfl⟩).2
    · obtain ⟨hp1, hp2⟩ := List.mem_filter.1 hp
      rcases Mp.mem_put.1 hp1 with rfl | ⟨hp1, _⟩
      · exfalso
        obtain ⟨c, hc⟩ := hin
        exact hnl (x, c) (List.mem_filter.2 ⟨hc, hp2⟩) rfl
      · exact List.mem_filter.2 ⟨hp1, hp2⟩
    · obtain ⟨hp1, hp2⟩ := List.mem_filter.1 hp
      exact List.mem_filter.2 ⟨Mp.mem_put.2 (.inr ⟨hp1, hnl p hp⟩), hp2⟩
theorem Mp.length_put_has {F : Mp V} {x : Bs} (v : V) (h : ∃ c, (x, c) ∈ F) : (F.put x v).length ≤ F.length := by
  obtain ⟨c, hc⟩ := h
  unfold Mp.put Mp.del
  rw [Mp.length_ins]
  have : (F.filter fun p => !(p.1 == x)).length < F.length := List.length_filter_lt_length_iff_exists.2 ⟨(x, c), hc, by simp⟩
  omega
end
abbrev rangeR {V : Type} (k : TypeId) (enc : V → Value) (b r : Nat) (M L : Mp V) (cnt : Nat) : Res where
  holds := fun F w => F = [b, r] ∧ RangeOf Tryz.prog k enc w b r M L cnt
  keeps := fun h hx hd => ⟨h.1, h.2.ext hx (hd b (by simp [h.1])) (hd r (by simp [h.1]))⟩
  inside := fun h x hx => by
    rw [h.1] at hx
    simp at hx
    rcases hx with rfl | rfl
    · exact h.2.owns.lt
    · exact h.2.lt
section
variable {V : Type} {enc : V → Value} {t k e b r cnt : Nat} {w0 w : World} {F0 : List Nat} {L : List Res} {M N : Mp V}
theorem Sp.rangeMade (S : Sp w0 F0 w (mapR k enc b M :: L)) (hk : Keyed Tryz.prog k) (ht : Tryz.prog.underlying t = some (.map k e)) :
    ∃ w1 cnt, (Instr.range t (.map (some b))).run Tryz.prog w = .ok (.pointer (some ⟨w.heap.size, 0, none⟩)) w1 ∧ Sp w0 F0 w1 (rangeR k enc b w.heap.size M M cnt :: L) := by
  obtain ⟨w1, cnt, h1, h2, h3, h4⟩ := S.map.range hk ht
  obtain ⟨F, ⟨rfl, h⟩, hk2⟩ := S.take
  exact ⟨w1, cnt, h1, hk2 w1 _ [b, w.heap.size] ⟨rfl, h2⟩ ⟨h3.mono (by simp), by simp⟩⟩
theorem Sp.range (S : Sp w0 F0 w (rangeR k enc b r M N cnt :: L)) : RangeOf Tryz.prog k enc w b r M N cnt := by
  obtain ⟨F, ⟨rfl, h⟩, _⟩ := S.take
  exact h
theorem Sp.rangeTo {M2 N2 : Mp V} {c2 : Nat} {w2 : World} (S : Sp w0 F0 w (rangeR k enc b r M N cnt :: L)) (h : RangeOf Tryz.prog k enc w2 b r M2 N2 c2) (hx : Ext [b, r] w w2) : Sp w0 F0 w2 (rangeR k enc b r M2 N2 c2 :: L) := by
  obtain ⟨F, ⟨rfl, _⟩, h2⟩ := S.take
  exact h2 _ _ [b, r] ⟨rfl, h⟩ (Moved.of_ext hx)
theorem Sp.rangeEnd (S : Sp w0 F0 w (rangeR k enc b r M N cnt :: L)) : Sp w0 F0 w (mapR k enc b M :: L) := by
  obtain ⟨F, ⟨rfl, h⟩, h2⟩ := S.take
  exact h2 w _ [b] ⟨rfl, h.owns⟩ ⟨Ext.refl _ _, by simp⟩
theorem Sp.rangeNext (S : Sp w0 F0 w (rangeR k enc b r M N cnt :: L)) (hk : Tryz.prog.underlying k = some .string) :
    (N = [] ∧ ∀ ty, (Instr.next (.pointer (some ⟨r, 0, none⟩)) false ty).run Tryz.prog w = .ok (.tuple #[.bool false]) w) ∨
    ∃ x c w1 N1 cnt1, N.Perm ((x, c) :: N1) ∧ (x, c) ∈ M ∧ x.length ≤ maxLen ∧ (∀ ty, (Instr.next (.pointer (some ⟨r, 0, none⟩)) false ty).run Tryz.prog w = .ok (.tuple #[.bool true, .string ⟨x.toArray⟩, enc c]) w1) ∧
      Sp w0 F0 w1 (rangeR k enc b r M N1 cnt1 :: L) ∧ cnt1 < cnt ∧ (∀ p ∈ N1, p.1 ≠ x) ∧ (Instr.entry (.pointer (some ⟨r, 0, none⟩))).run Tryz.prog w1 = .ok (.tuple #[.string ⟨x.toArray⟩, enc c]) w1 := by
  have hap := S.range.apart (string_keyed hk)
  rcases S.range.next hk with ⟨h1, h2⟩ | ⟨x, c, w1, N1, cnt1, h1, h2, h3, h4, h5, h6, h7, h8, h9⟩
  · exact .inl ⟨h1, h2⟩
  · refine .inr ⟨x, c, w1, N1, cnt1, h1, h2, h3, h4, S.rangeTo h5 (h7.mono (by simp)), h6, fun p hp => ?_, h9⟩
    have := (h1.pairwise_iff (fun {_ _} h => Ne.symm h)).1 hap
    rw [List.pairwise_cons] at this
    exact Ne.symm (this.1 p hp)
theorem Sp.rangePut (S : Sp w0 F0 w (rangeR k enc b r M N cnt :: L)) (hk : Keyed Tryz.prog k) (ht : Tryz.prog.underlying t = some (.map k e)) (hn : M.length < maxLen) {key : Value} {x : Bs} (hx : keyOf Tryz.prog k key = some (.string x)) (hin : ∃ c, (x, c) ∈ M) (hnl : ∀ p ∈ N, p.1 ≠ x) (v : V) :
    ∃ w2 N2, (Instr.mapUpdate t (.map (some b)) key (enc v)).run Tryz.prog w = .ok () w2 ∧ Sp w0 F0 w2 (rangeR k enc b r (M.put x v) N2 cnt :: L) ∧ ∀ p, p ∈ N2 ↔ p ∈ N := by
  obtain ⟨w2, N2, h1, h2, h3, h4, h5⟩ := S.range.put hk ht hn hx hin hnl v
  exact ⟨w2, N2, h1, S.rangeTo h2 (h3.mono (by simp)), h5⟩
end
end Go.Proofs.YtcffickkipicbaaGreatDoor
