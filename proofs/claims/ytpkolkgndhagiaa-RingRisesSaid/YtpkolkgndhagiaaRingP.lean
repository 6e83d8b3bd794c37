/- ring, plainly: a disk whose one file is rows of a ring; what is done to it. No program. -/
import Derived.Test.YtpkolkgndhagiaaRing4
namespace Go.Proofs.Ytpkolkgndhagiaa
open Go.RowKit Go.Maps

abbrev RRow := Bs × RSt
def rowsB (l : List RRow) : Bs := l.flatMap fun p => ringRow p.1 p.2
def rowOk (p : RRow) : Prop := p.1.length ≤ 255 ∧ p.2.now ≤ 1000000 ∧ p.2.old ≤ 1000000
theorem rowsB_append (l m : List RRow) : rowsB (l ++ m) = rowsB l ++ rowsB m := by simp [rowsB]
theorem rowsB_length (l : List RRow) (h : ∀ p ∈ l, rowOk p) : (rowsB l).length ≤ 291 * l.length := by
  induction l with
  | nil => simp [rowsB]
  | cons p r ih =>
    have h1 := ringRow_length_le p.1 p.2
    have h2 := (h p (by simp)).1
    have h3 := ih (fun q hq => h q (by simp [hq]))
    unfold rowsB at *
    simp only [List.flatMap_cons, List.length_append, List.length_cons]
    omega
theorem ringRead_back (d : Bs) (s : RSt) (rest : Bs) (h : rowOk (d, s)) : ringRead ⟨ringRow d s ++ rest, false⟩ = (d, s, true, ⟨rest, false⟩) := by
  obtain ⟨h1, h2, h3⟩ := h
  dsimp only at h1 h2 h3
  have e1 := text_back (textB d ++ (numB s.now ++ numB s.old)) 300 rest (by
    have := textB_length_le d; have := numB_length_le s.now; have := numB_length_le s.old
    simp only [List.length_append]; omega) (by
    have := textB_length_le d; have := numB_length_le s.now; have := numB_length_le s.old
    simp only [List.length_append]; omega)
  have e2 := text_back d 255 (numB s.now ++ numB s.old) (by omega) h1
  have e3 := num_back s.now 1000000 (numB s.old) (by omega) h2
  have e4 := num_back s.old 1000000 [] (by omega) h3
  rw [List.append_nil] at e4
  unfold ringRead ringRow
  simp only [e1, e2, e3, e4]
  rfl
theorem ringRow_ne (d : Bs) (s : RSt) : ringRow d s ≠ [] := by simp [ringRow, textB, numB]
theorem rows_back (l : List RRow) (h : ∀ p ∈ l, rowOk p) : ringRows (rowsB l) = l ∧ ringRest (rowsB l) = [] := by
  induction l with
  | nil => exact ringScan_stop ringRead_nil
  | cons p r ih =>
    obtain ⟨i1, i2⟩ := ih (fun q hq => h q (by simp [hq]))
    have e : rowsB (p :: r) = ringRow p.1 p.2 ++ rowsB r := by simp [rowsB]
    have hb := ringRead_back p.1 p.2 (rowsB r) (h p (by simp))
    rw [e]
    have h1 := ringScan_step (s := ringRow p.1 p.2 ++ rowsB r) (by rw [hb])
    rw [hb] at h1
    dsimp only at h1
    rw [h1.1, h1.2, i1, i2]
    exact ⟨rfl, rfl⟩

theorem put_one (k x v : Bs) : Fs.put [(k, x)] k v = [(k, v)] := by simp [Fs.put, Fs.del, Fs.ins]
theorem get_one (k x : Bs) : Fs.get [(k, x)] k = some x := by simp [Fs.get]
theorem has_one (k x : Bs) : Fs.has [(k, x)] k = true := by simp [Fs.has]
theorem bytes_one (k x : Bs) : Fs.bytes [(k, x)] = x.length := by simp [Fs.bytes]
theorem did_lay (k x d : Bs) : Fs.did [(k, x)] ⟨2, k, [], d⟩ = [(k, x ++ d)] := by
  unfold Fs.did
  rw [if_neg (by simp), if_pos rfl, get_one, put_one]
  rfl

def rowEv (p : RRow) : Ev := ⟨2, ringB, [], ringRow p.1 p.2⟩
/-- A disk with the ring's file alone: the rows l are sure, behind them t, which are not. -/
structure RD (D : Dk) (l t : List RRow) : Prop where
  now : D.now = [(ringB, rowsB (l ++ t))]
  sure : D.sure = [(ringB, rowsB l)]
  pend : D.pend = t.map rowEv
  dead : t ≠ [] → D.dead = true
  fuse : D.fuse ≤ 9223372036854775807
  ok : ∀ p ∈ l ++ t, rowOk p

theorem RD.file {D : Dk} {l t : List RRow} (h : RD D l t) : ringFile D = rowsB (l ++ t) := by unfold ringFile; rw [h.now, get_one]; rfl
theorem RD.open {D : Dk} {l t : List RRow} (h : RD D l t) : ringOpen D = (D, some (ringPuts (l ++ t)), 0) := by
  obtain ⟨h1, h2⟩ := rows_back (l ++ t) h.ok
  unfold ringOpen
  rw [h.file, h1, h2, if_pos ⟨by rw [h.now, has_one], rfl⟩]
theorem RD.quota {D : Dk} {l t : List RRow} (h : RD D l t) (q : Int) : RD { D with quota := q } l t := ⟨h.now, h.sure, h.pend, h.dead, h.fuse, h.ok⟩
theorem RD.setFuse {D : Dk} {l t : List RRow} (h : RD D l t) (n : Int) (hn : n ≤ 9223372036854775807) : RD (D.setFuse n) l t := by
  unfold Dk.setFuse
  split
  · exact h
  · exact ⟨h.now, h.sure, h.pend, h.dead, by simp only; omega, h.ok⟩
theorem foldl_rows (t : List RRow) : ∀ x : Bs, (t.map rowEv).foldl Fs.did [(ringB, x)] = [(ringB, x ++ rowsB t)] := by
  induction t with
  | nil => intro x; simp [rowsB]
  | cons p r ih =>
    intro x
    rw [List.map_cons, List.foldl_cons]
    have : Fs.did [(ringB, x)] (rowEv p) = [(ringB, x ++ ringRow p.1 p.2)] := did_lay _ _ _
    rw [this, ih]
    simp [rowsB]
theorem RD.replay {D : Dk} {l t : List RRow} (h : RD D l t) (k : Nat) : D.replay k = [(ringB, rowsB (l ++ t.take k))] := by
  unfold Dk.replay
  rw [h.pend, h.sure, ← List.map_take, foldl_rows, rowsB_append]
theorem RD.crash {D : Dk} {l t : List RRow} (h : RD D l t) (n : Int) : RD (D.crash n) (l ++ t.take n.toNat) [] := by
  refine ⟨?_, ?_, rfl, by simp, by simp [Dk.crash], ?_⟩
  · simp only [Dk.crash, List.append_nil]; exact h.replay _
  · simp only [Dk.crash]; exact h.replay _
  · intro p hp
    refine h.ok p ?_
    simp only [List.append_nil, List.mem_append] at hp ⊢
    exact hp.imp id List.mem_of_mem_take
theorem RD.roomy {D : Dk} {l t : List RRow} (h : RD D l t) {n : Nat} (ht : D.trace.length ≤ n) (hl : 291 * (l ++ t).length + 1 ≤ n) : D.Roomy n := by
  have h1 := rowsB_length (l ++ t) h.ok
  refine ⟨h.fuse, ht, ?_, ?_, ?_⟩
  · rw [h.pend, List.length_map]; simp at hl; omega
  · rw [h.now]; simp; omega
  · rw [h.now, bytes_one]; omega
theorem RD.crashFit {D : Dk} {l t : List RRow} (h : RD D l t) (hl : (l ++ t).length ≤ 100000000) : D.CrashFit := by
  have hp : D.pend.length = t.length := by rw [h.pend, List.length_map]
  refine ⟨by rw [hp]; simp at hl; omega, fun j hj => ?_⟩
  have hj' : j < t.length := by rw [← hp]; exact hj
  have e : D.pend[j] = rowEv t[j] := by simp only [h.pend, List.getElem_map]
  have h1 := rowsB_length (l ++ t.take j) (fun p hp => h.ok p (by simp only [List.mem_append] at hp ⊢; exact hp.imp id List.mem_of_mem_take))
  have h2 := ringRow_length_le (t[j]).1 (t[j]).2
  have h3 := (h.ok t[j] (by simp)).1
  have h4 : (l ++ t.take j).length ≤ 100000000 := by simp at hl ⊢; omega
  rw [e, h.replay]
  refine ⟨⟨by simp [rowEv], by simp only [rowEv]; decide, by simp [rowEv], ?_⟩, by simp [maxLen]⟩
  simp only [rowEv, get_one, Option.getD_some]
  unfold maxLen
  omega

/-- What comes of setting a state on such a disk, all of whose rows are sure. -/
theorem RD.set {D : Dk} {l : List RRow} (h : RD D l []) (M : Mp RSt) (x : Bs) (s : RSt) (hs : rowOk (x, s)) (hne : s ≠ ringState M x) :
    ((ringSet D M x s).2 = (M, 12) ∧ (ringSet D M x s).1 = D ∧ D.quota < ((rowsB l).length + (ringRow x s).length : Nat)) ∨
    ((ringSet D M x s).2 = (M, 13) ∧ (ringSet D M x s).1.dead = true ∧ (ringSet D M x s).1.quota = D.quota ∧ (ringSet D M x s).1.trace.length ≤ D.trace.length + 2 ∧ (D.dead = true ∨ 0 ≤ D.fuse) ∧ (RD (ringSet D M x s).1 l [] ∨ RD (ringSet D M x s).1 l [(x, s)])) ∨
    ((ringSet D M x s).2 = (M.put x s, 0) ∧ (ringSet D M x s).1.dead = false ∧ D.dead = false ∧ (ringSet D M x s).1.quota = D.quota ∧ (ringSet D M x s).1.trace.length = D.trace.length + 2 ∧ (D.fuse < 0 → (ringSet D M x s).1.fuse = D.fuse) ∧ ¬ D.quota < ((rowsB l).length + (ringRow x s).length : Nat) ∧ RD (ringSet D M x s).1 (l ++ [(x, s)]) []) := by
  have hn := h.now
  rw [List.append_nil] at hn
  have hok : ∀ p ∈ (l ++ [(x, s)]) ++ [], rowOk p := by
    intro p hp
    simp only [List.append_nil, List.mem_append, List.mem_singleton] at hp
    rcases hp with hp | rfl
    · exact h.ok p (by simp [hp])
    · exact hs
  have hf := h.fuse
  have hfu : (if 0 < D.fuse then D.fuse - 1 else D.fuse) ≤ 9223372036854775807 := by split <;> omega
  have hfu2 : (if 0 < (if 0 < D.fuse then D.fuse - 1 else D.fuse) then (if 0 < D.fuse then D.fuse - 1 else D.fuse) - 1 else (if 0 < D.fuse then D.fuse - 1 else D.fuse)) ≤ 9223372036854775807 := by split <;> omega
  have hrow : rowsB [(x, s)] = ringRow x s := by simp [rowsB]
  by_cases hq : D.quota < ((rowsB l).length + (ringRow x s).length : Nat)
  · left
    have ha : D.append ringB (ringRow x s) = (D, 12) := by
      unfold Dk.append
      rw [hn, has_one, bytes_one, if_pos rfl, if_pos (by push_cast at hq; exact hq)]
    unfold ringSet
    rw [if_neg hne, ha, if_pos (by simp)]
    exact ⟨rfl, rfl, hq⟩
  · right
    have ha : D.append ringB (ringRow x s) = D.done (rowEv (x, s)) := by
      unfold Dk.append
      rw [hn, has_one, bytes_one, if_pos rfl, if_neg (by push_cast at hq; exact hq)]
      rfl
    unfold ringSet
    rw [if_neg hne, ha]
    by_cases hd : D.dead = true ∨ D.fuse = 0
    · left
      have e : D.done (rowEv (x, s)) = ({ D with dead := true }, 13) := by
        unfold Dk.done
        rw [if_pos (by simpa using hd)]
      rw [e, if_pos (by simp)]
      refine ⟨rfl, rfl, rfl, by simp, ?_, .inl ⟨h.now, h.sure, h.pend, fun _ => rfl, h.fuse, h.ok⟩⟩
      rcases hd with hd | hd
      · exact .inl hd
      · exact .inr (by omega)
    · have hd1 : D.dead = false := by cases hh : D.dead with | false => rfl | true => exact absurd (.inl hh) hd
      have hd2 : D.fuse ≠ 0 := fun hh => hd (.inr hh)
      have e : D.done (rowEv (x, s)) = ({ D with fuse := (if 0 < D.fuse then D.fuse - 1 else D.fuse), trace := D.trace ++ [rowEv (x, s)], now := [(ringB, rowsB l ++ ringRow x s)], pend := D.pend ++ [rowEv (x, s)] }, 0) := by
        unfold Dk.done
        rw [if_neg (by simp [hd1, hd2]), if_neg (by simp [rowEv]), hn]
        have : Fs.did [(ringB, rowsB l)] (rowEv (x, s)) = [(ringB, rowsB l ++ ringRow x s)] := did_lay _ _ _
        rw [this]
      rw [e, if_neg (by simp)]
      by_cases hd3 : (if 0 < D.fuse then D.fuse - 1 else D.fuse) = 0
      · left
        have e2 : Dk.sync { D with fuse := (if 0 < D.fuse then D.fuse - 1 else D.fuse), trace := D.trace ++ [rowEv (x, s)], now := [(ringB, rowsB l ++ ringRow x s)], pend := D.pend ++ [rowEv (x, s)] } = ({ D with fuse := (if 0 < D.fuse then D.fuse - 1 else D.fuse), trace := D.trace ++ [rowEv (x, s)], now := [(ringB, rowsB l ++ ringRow x s)], pend := D.pend ++ [rowEv (x, s)], dead := true }, 13) := by
          unfold Dk.sync Dk.done
          rw [if_pos (by simp [hd3])]
        rw [e2, if_pos (by simp)]
        refine ⟨rfl, rfl, rfl, by simp, .inr (by split at hd3 <;> omega), .inr ⟨?_, h.sure, ?_, fun _ => rfl, hfu, by simpa using hok⟩⟩
        · simp only; rw [rowsB_append, hrow]
        · simp only [h.pend]; simp
      · right
        have e2 : Dk.sync { D with fuse := (if 0 < D.fuse then D.fuse - 1 else D.fuse), trace := D.trace ++ [rowEv (x, s)], now := [(ringB, rowsB l ++ ringRow x s)], pend := D.pend ++ [rowEv (x, s)] } = ({ D with fuse := (if 0 < (if 0 < D.fuse then D.fuse - 1 else D.fuse) then (if 0 < D.fuse then D.fuse - 1 else D.fuse) - 1 else (if 0 < D.fuse then D.fuse - 1 else D.fuse)), trace := D.trace ++ [rowEv (x, s)] ++ [⟨5, [], [], []⟩], now := [(ringB, rowsB l ++ ringRow x s)], sure := [(ringB, rowsB l ++ ringRow x s)], pend := [] }, 0) := by
          unfold Dk.sync Dk.done
          rw [if_neg (by simp [hd1, hd3]), if_pos rfl]
        rw [e2, if_neg (by simp)]
        refine ⟨rfl, hd1, hd1, rfl, by simp, fun hneg => ?_, hq, ⟨?_, ?_, rfl, by simp, hfu2, hok⟩⟩
        · simp only; rw [if_neg (by rw [if_neg (by omega)]; omega), if_neg (by omega)]
        · simp only; rw [List.append_nil, rowsB_append, hrow]
        · simp only; rw [rowsB_append, hrow]
end Go.Proofs.Ytpkolkgndhagiaa
