/- ring: Domains. Conditions: the lengths fit. -/
import Derived.Test.YtpkolkgndhagiaaRing3
import Derived.Test.YtpkolkgndhagiaaIter
import Derived.Test.YtpkolkgndhagiaaStrs
namespace Go.Proofs.Ytpkolkgndhagiaa
open Go.RowKit Go.Maps Go.Sort Go.Shelf

/-- A slice value that holds texts, in blocks of its own. -/
abbrev textsR (v : Value) (l : List Bs) : Res where
  holds := fun F w => F = v.ownBlock.toList ∧ Strs w v l
  keeps := fun h hx hd => ⟨h.1, row_ext h.2 hx fun k hk => hd k (by rw [h.1]; simp [hk])⟩
  inside := fun h x hx => by rw [h.1] at hx; exact (h.2.lt x (by simpa using hx)).2
def ringDomains (M : Mp RSt) : List Bs := M.map (·.1)

section
variable {w0 w : World} {F0 : List Nat} {L : List Res} {p d : Nat} {M : Mp RSt}
theorem strKeys_data {V : Type} (enc : V → Value) (M : Mp V) : strKeys (M.data enc) = M.map (·.1) := by
  unfold Mp.data strKeys
  simp only [List.map_map]
  rfl
theorem ownsRow_zero {w : World} {base e size n : Nat} {v : Value} {xs : List Value} (h : w.ownsRow base e size v n xs) : w.ownsRow 0 e size v n xs := by
  refine ⟨h.1, ?_⟩
  rcases h.2 with h | ⟨g, cap, cur, a1, _, a3⟩
  · exact .inl h
  · exact .inr ⟨g, cap, cur, a1, Nat.zero_le _, a3⟩
set_option maxRecDepth 100000 in
set_option maxHeartbeats 1000000 in
theorem ringDomainsS (S : Sp w0 F0 w (ringR p d M :: L)) (hM : M.length ≤ 1000000000) :
    Calls Try.prog 37 #[.pointer (some ⟨p, 0, none⟩)] w fun e w2 => ∃ v, e = .returned v ∧ Sp w0 F0 w2 (textsR v (ringDomains M) :: ringR p d M :: L) := by
  obtain ⟨m, S1⟩ := S.exOpen
  have c := S1.part.cell
  have hmap := ((Sp.pick [_, _] [1] (by decide) (S1.part))).map
  have HS := Lib.hid S
  have HM := Lib.hid hmap
  have hsz : Maps.size (M.data RSt.agg) = M.length := Mp.data_size _ _
  have HZ : Hid (Maps.size (M.data RSt.agg) ≤ maxLen ∧ Maps.size (M.data RSt.agg) * 16 ≤ 140737488355328) := by rw [hsz]; unfold maxLen; exact ⟨by omega, by omega⟩
  clear S S1 hmap hsz hM
  refine (callsIn_wide (n := 6)).1 ?_
  have hfK : Fence.wide.fn 65 := trivial
  have hfS : Fence.wide.fn 64 := trivial
  refine callsIn_of_wp Try.func37 rfl trivial ?_ rfl
  simp only [Try.ntmps37, List.size_toArray, List.length_cons, List.length_nil, Nat.reduceAdd, Nat.reduceSub, Array.replicate_succ, Array.replicate_zero, List.push_toArray, List.append_toArray, List.nil_append, List.cons_append]
  gi_wp2_with (first
    | (gi_at_call 65; refine (Try.maps_Keys_65 _ _).mono ?_; rintro e w2 ⟨rfl, rfl⟩)
    | (gi_at_call 64; refine (Try.slices_Sorted_keys_64_65 m _ _ _ w HM.out HZ.out.1 HZ.out.2).mono ?_; rintro e w3 ⟨v, ss, rfl, hS, hrow, hnil, hb⟩))
  go_ret
  refine ⟨v, rfl, ?_⟩
  have hx : Ext [] w w3 := ((Ext.refl [] w).alloc _).trans (Ext.of_below hb) (by simp)
  have hrow2 := ownsRow_zero hrow
  have hperm : ss.Perm (M.map (·.1)) := by rw [← strKeys_data RSt.agg M]; exact hS
  have hl : ss.length = (ringDomains M).length := hperm.length_eq
  have he : (ss.mergeSort fun x y => decide (x ≤ y)) = ringDomains M := sortB_perm hperm (by
    unfold ringDomains
    rw [List.pairwise_map]
    refine (HM.out.sorted keyedStr).imp fun {a b} h => ?_
    rw [bytesBefore_eq, decide_eq_true_eq] at h
    exact List.le_of_lt h)
  rw [hl, he] at hrow2
  refine HS.out.gain (G := v.ownBlock.toList) hx ⟨rfl, hrow2⟩ fun x hx2 => ?_
  have := (hrow.lt x (by simpa using hx2)).1
  simp at this
  omega
end
end Go.Proofs.Ytpkolkgndhagiaa
