/- Maps whose keys are a key and a nonce (LedgerOnce's use). Conditions: the lengths fit. -/
import Derived.Test.YtpkolkgndhagiaaArgs0
import Derived.Test.YtpkolkgndhagiaaMap
import Derived.Test.YtpkolkgndhagiaaLgO
namespace Go.Proofs.Ytpkolkgndhagiaa
open Go.RowKit Go.Maps

theorem useCells : Try.prog.cellsOf 59 = 2 := by kernel_rfl
theorem useRow : (59 : TypeId) < Try.prog.types.size := of_decide_eq_true (by kernel_rfl)
theorem useKeyType : Try.prog.keyType 59 = true := by kernel_rfl
theorem useWide : (match Try.prog.underlying 59 with | some (.array _ _) | some (.struct _) => true | _ => false) = true := by kernel_rfl
set_option maxRecDepth 100000 in
theorem useKeyed : Keyed Try.prog 59 := Keyed.of_law (deep_law_laid laidOut (m := 2) (by omega) useRow (by kernel_rfl) useWide)
def useB (x s : Bs) : Bs := keyBytes [.string x, .string s]
theorem useSize : ∃ m, Try.prog.types.size = m + 1 := by
  have h := useRow
  generalize Try.prog.types.size = n at *
  exact ⟨n - 1, (Nat.succ_pred_eq_of_pos (Nat.lt_of_le_of_lt (Nat.zero_le _) h)).symm⟩
theorem strCells : Try.prog.cellsOf 9 = 1 := by kernel_rfl
theorem keyUse (x s : Bs) (hx : x.length ≤ maxLen) (hs : s.length ≤ maxLen) : keyOf Try.prog 59 (.agg #[.string ⟨x.toArray⟩, .string ⟨s.toArray⟩]) = some (.string (useB x s)) := by
  have hsx : (ByteArray.mk x.toArray).size ≤ maxLen := hx
  have hss : (ByteArray.mk s.toArray).size ≤ maxLen := hs
  have hkt := useKeyType
  obtain ⟨m, hm⟩ := useSize
  unfold keyOf
  simp only [Try.underlying59]
  rw [if_pos (by simp [hkt, Value.formed, Try.underlying59, useCells]), hm]
  unfold Program.keyLits
  simp only [Try.underlying59, Value.cells]
  rw [if_pos ⟨by rw [useCells]; rfl, by kernel_rfl⟩]
  simp [strCells, Program.keyLits, Try.underlying9, hsx, hss, useB]
theorem useB_inj {x s y t : Bs} (hx : x.length ≤ maxLen) (hs : s.length ≤ maxLen) (hy : y.length ≤ maxLen) (ht : t.length ≤ maxLen) (h : useB x s = useB y t) : x = y ∧ s = t := by
  have h1 := keyUse x s hx hs
  rw [h] at h1
  have h2 := useKeyed.inj h1 (keyUse y t hy ht)
  simp only [Value.agg.injEq, Array.mk.injEq, List.cons.injEq, Value.string.injEq, ByteArray.mk.injEq, and_true] at h2
  exact ⟨by simpa using h2.1, by simpa using h2.2⟩
abbrev encB (v : Bool) : Value := .bool v
theorem zeroB (w : World) : (zeroValue 4).run Try.prog w = .ok (.bool false) w := by kernel_rfl
/-- The map holds just what was told. -/
def Used (U : Mp Bool) (T : List (Bs × Nat)) : Prop := ∀ p ∈ U, ∃ q ∈ T, p.1 = useB q.1 (nonceB q.2)
theorem nonceB_len (n : Nat) : (nonceB n).length = 12 := by unfold nonceB; rw [List.length_append, highB_length]; rfl
theorem Used.not {U : Mp Bool} {T : List (Bs × Nat)} (h : Used U T) (hT : ∀ q ∈ T, q.1.length ≤ 300 ∧ q.2 < 1099511627776) {x : Bs} {c : Nat} (hx : x.length ≤ 300) (hc : c < 1099511627776) (hn : ∀ q ∈ T, q.1 = x → q.2 ≠ c) :
    ((U.get (useB x (nonceB c))).map encB).getD (.bool false) = .bool false := by
  cases hg : U.get (useB x (nonceB c)) with
  | none => rfl
  | some v =>
    exfalso
    unfold Mp.get at hg
    obtain ⟨p, hp, _⟩ := Option.map_eq_some_iff.1 hg
    have h1 := List.find?_some hp
    simp only [beq_iff_eq] at h1
    obtain ⟨q, hq, hqe⟩ := h p (List.mem_of_find?_eq_some hp)
    obtain ⟨b1, b2⟩ := hT q hq
    rw [h1] at hqe
    obtain ⟨e1, e2⟩ := useB_inj (by unfold maxLen; omega) (by rw [nonceB_len]; decide) (by unfold maxLen; omega) (by rw [nonceB_len]; decide) hqe
    exact hn q hq e1.symm (nonceB_inj b2 hc e2.symm)
theorem Used.put {U : Mp Bool} {T : List (Bs × Nat)} (h : Used U T) (x : Bs) (c : Nat) : Used (U.put (useB x (nonceB c)) true) (T ++ [(x, c)]) := fun p hp => by
  rcases Mp.mem_put.1 hp with rfl | ⟨hp, _⟩
  · exact ⟨(x, c), by simp, rfl⟩
  · obtain ⟨q, hq, e⟩ := h p hp
    exact ⟨q, by simp [hq], e⟩
end Go.Proofs.Ytpkolkgndhagiaa
