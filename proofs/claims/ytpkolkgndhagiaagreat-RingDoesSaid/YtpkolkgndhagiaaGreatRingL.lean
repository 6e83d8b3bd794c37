/- ring, plainly: a disk whose one file is rows of a ring; what is done to it. No program. ring, plainly: Begin and End on a disk that nothing has broken. No program. ring, plainly: epochs never fall, whatever dies and crashes. No program. The first look of the statements of layer 14 (awake): it tells true. No condition. law 14: is an act too large? Conditions: the lengths fit. -/
import Derived.Test.YtpkolkgndhagiaaGreatRingW
import Derived.Test.YtpkolkgndhagiaaGreatActK
/-! RingP -/
set_option linter.unusedSimpArgs false
set_option linter.unusedVariables false
set_option linter.unnecessarySimpa false
namespace Go.Proofs.YtpkolkgndhagiaaGreat
open Go.RowKit Go.Maps

abbrev RRow := Bs × RSt
def rowsB (l : List RRow) : Bs := l.flatMap fun p => ringRow p.1 p.2
def rowOk (p : RRow) : Prop := p.1.length ≤ 255 ∧ p.2.now ≤ 1000000 ∧ p.2.old ≤ 1000000
theorem rowsB_append (l m : List RRow) : rowsB (l ++ m) = rowsB l ++ rowsB m := by simp [rowsB]
theorem rowsB_length (l : List RRow) (h : ∀ p ∈ l, rowOk p) : (rowsB l).length ≤ 291 * l.length := by
  induction l with
  | nil => simp [rowsB]
  | cons p r ih =>
    have h1 := ringRow_length_le p.1 p.2
    have h2 := (h p (by simp)).1
    have h3 := ih (fun q hq => h q (by simp [hq]))
    unfold rowsB at *
    simp only [List.flatMap_cons, List.length_append, List.length_cons]
    omega
theorem ringRead_back (d : Bs) (s : RSt) (rest : Bs) (h : rowOk (d, s)) : ringRead ⟨ringRow d s ++ rest, false⟩ = (d, s, true, ⟨rest, false⟩) := by
  obtain ⟨h1, h2, h3⟩ := h
  dsimp only at h1 h2 h3
  have e1 := text_back (textB d ++ (numB s.now ++ numB s.old)) 300 rest (by
    have := textB_length_le d; have := numB_length_le s.now; have := numB_length_le s.old
    simp only [List.length_append]; omega) (by
    have := textB_length_le d; have := numB_length_le s.now; have := numB_length_le s.old
    simp only [List.length_append]; omega)
  have e2 := text_back d 255 (numB s.now ++ numB s.old) (by omega) h1
  have e3 := num_back s.now 1000000 (numB s.old) (by omega) h2
  have e4 := num_back s.old 1000000 [] (by omega) h3
  rw [List.append_nil] at e4
  unfold ringRead ringRow
  simp only [e1, e2, e3, e4]
  rfl
theorem ringRow_ne (d : Bs) (s : RSt) : ringRow d s ≠ [] := by simp [ringRow, textB, numB]
theorem rows_back (l : List RRow) (h : ∀ p ∈ l, rowOk p) : ringRows (rowsB l) = l ∧ ringRest (rowsB l) = [] := by
  induction l with
  | nil => exact ringScan_stop ringRead_nil
  | cons p r ih =>
    obtain ⟨i1, i2⟩ := ih (fun q hq => h q (by simp [hq]))
    have e : rowsB (p :: r) = ringRow p.1 p.2 ++ rowsB r := by simp [rowsB]
    have hb := ringRead_back p.1 p.2 (rowsB r) (h p (by simp))
    rw [e]
    have h1 := ringScan_step (s := ringRow p.1 p.2 ++ rowsB r) (by rw [hb])
    rw [hb] at h1
    dsimp only at h1
    rw [h1.1, h1.2, i1, i2]
    exact ⟨rfl, rfl⟩

theorem put_one (k x v : Bs) : Fs.put [(k, x)] k v = [(k, v)] := by simp [Fs.put, Fs.del, Fs.ins]
theorem get_one (k x : Bs) : Fs.get [(k, x)] k = some x := by simp [Fs.get]
theorem has_one (k x : Bs) : Fs.has [(k, x)] k = true := by simp [Fs.has]
theorem bytes_one (k x : Bs) : Fs.bytes [(k, x)] = x.length := by simp [Fs.bytes]
theorem did_lay (k x d : Bs) : Fs.did [(k, x)] ⟨2, k, [], d⟩ = [(k, x ++ d)] := by
  unfold Fs.did
  rw [if_neg (by simp), if_pos rfl, get_one, put_one]
  rfl

def rowEv (p : RRow) : Ev := ⟨2, ringB, [], ringRow p.1 p.2⟩
/-- A disk with the ring's file alone: the rows l are sure, behind them t, which are not. -/
structure RD (D : Dk) (l t : List RRow) : Prop where
  now : D.now = [(ringB, rowsB (l ++ t))]
  sure : D.sure = [(ringB, rowsB l)]
  pend : D.pend = t.map rowEv
  dead : t ≠ [] → D.dead = true
  fuse : D.fuse ≤ 9223372036854775807
  ok : ∀ p ∈ l ++ t, rowOk p

theorem RD.file {D : Dk} {l t : List RRow} (h : RD D l t) : ringFile D = rowsB (l ++ t) := by unfold ringFile; rw [h.now, get_one]; rfl
theorem RD.open {D : Dk} {l t : List RRow} (h : RD D l t) : ringOpen D = (D, some (ringPuts (l ++ t)), 0) := by
  obtain ⟨h1, h2⟩ := rows_back (l ++ t) h.ok
  unfold ringOpen
  rw [h.file, h1, h2, if_pos ⟨by rw [h.now, has_one], rfl⟩]
theorem RD.quota {D : Dk} {l t : List RRow} (h : RD D l t) (q : Int) : RD { D with quota := q } l t := ⟨h.now, h.sure, h.pend, h.dead, h.fuse, h.ok⟩
theorem RD.setFuse {D : Dk} {l t : List RRow} (h : RD D l t) (n : Int) (hn : n ≤ 9223372036854775807) : RD (D.setFuse n) l t := by
  unfold Dk.setFuse
  split
  · exact h
  · exact ⟨h.now, h.sure, h.pend, h.dead, by simp only; omega, h.ok⟩
theorem foldl_rows (t : List RRow) : ∀ x : Bs, (t.map rowEv).foldl Fs.did [(ringB, x)] = [(ringB, x ++ rowsB t)] := by
  induction t with
  | nil => intro x; simp [rowsB]
  | cons p r ih =>
    intro x
    rw [List.map_cons, List.foldl_cons]
    have : Fs.did [(ringB, x)] (rowEv p) = [(ringB, x ++ ringRow p.1 p.2)] := did_lay _ _ _
    rw [this, ih]
    simp [rowsB]
theorem RD.replay {D : Dk} {l t : List RRow} (h : RD D l t) (k : Nat) : D.replay k = [(ringB, rowsB (l ++ t.take k))] := by
  unfold Dk.replay
  rw [h.pend, h.sure, ← List.map_take, foldl_rows, rowsB_append]
theorem RD.crash {D : Dk} {l t : List RRow} (h : RD D l t) (n : Int) : RD (D.crash n) (l ++ t.take n.toNat) [] := by
  refine ⟨?_, ?_, rfl, by simp, by simp [Dk.crash], ?_⟩
  · simp only [Dk.crash, List.append_nil]; exact h.replay _
  · simp only [Dk.crash]; exact h.replay _
  · intro p hp
    refine h.ok p ?_
    simp only [List.append_nil, List.mem_append] at hp ⊢
    exact hp.imp id List.mem_of_mem_take
theorem RD.roomy {D : Dk} {l t : List RRow} (h : RD D l t) {n : Nat} (ht : D.trace.length ≤ n) (hl : 291 * (l ++ t).length + 1 ≤ n) : D.Roomy n := by
  have h1 := rowsB_length (l ++ t) h.ok
  refine ⟨h.fuse, ht, ?_, ?_, ?_⟩
  · rw [h.pend, List.length_map]; simp at hl; omega
  · rw [h.now]; simp; omega
  · rw [h.now, bytes_one]; omega
theorem RD.crashFit {D : Dk} {l t : List RRow} (h : RD D l t) (hl : (l ++ t).length ≤ 100000000) : D.CrashFit := by
  have hp : D.pend.length = t.length := by rw [h.pend, List.length_map]
  refine ⟨by rw [hp]; simp at hl; omega, fun j hj => ?_⟩
  have hj' : j < t.length := by rw [← hp]; exact hj
  have e : D.pend[j] = rowEv t[j] := by simp only [h.pend, List.getElem_map]
  have h1 := rowsB_length (l ++ t.take j) (fun p hp => h.ok p (by simp only [List.mem_append] at hp ⊢; exact hp.imp id List.mem_of_mem_take))
  have h2 := ringRow_length_le (t[j]).1 (t[j]).2
  have h3 := (h.ok t[j] (by simp)).1
  have h4 : (l ++ t.take j).length ≤ 100000000 := by simp at hl ⊢; omega
  rw [e, h.replay]
  refine ⟨⟨by simp [rowEv], by simp only [rowEv]; decide, by simp [rowEv], ?_⟩, by simp [maxLen]⟩
  simp only [rowEv, get_one, Option.getD_some]
  unfold maxLen
  omega

/-- What comes of setting a state on such a disk, all of whose rows are sure. -/
theorem RD.set {D : Dk} {l : List RRow} (h : RD D l []) (M : Mp RSt) (x : Bs) (s : RSt) (hs : rowOk (x, s)) (hne : s ≠ ringState M x) :
    ((ringSet D M x s).2 = (M, 12) ∧ (ringSet D M x s).1 = D ∧ D.quota < ((rowsB l).length + (ringRow x s).length : Nat)) ∨
    ((ringSet D M x s).2 = (M, 13) ∧ (ringSet D M x s).1.dead = true ∧ (ringSet D M x s).1.quota = D.quota ∧ (ringSet D M x s).1.trace.length ≤ D.trace.length + 2 ∧ (D.dead = true ∨ 0 ≤ D.fuse) ∧ (RD (ringSet D M x s).1 l [] ∨ RD (ringSet D M x s).1 l [(x, s)])) ∨
    ((ringSet D M x s).2 = (M.put x s, 0) ∧ (ringSet D M x s).1.dead = false ∧ D.dead = false ∧ (ringSet D M x s).1.quota = D.quota ∧ (ringSet D M x s).1.trace.length = D.trace.length + 2 ∧ (D.fuse < 0 → (ringSet D M x s).1.fuse = D.fuse) ∧ ¬ D.quota < ((rowsB l).length + (ringRow x s).length : Nat) ∧ RD (ringSet D M x s).1 (l ++ [(x, s)]) []) := by
  have hn := h.now
  rw [List.append_nil] at hn
  have hok : ∀ p ∈ (l ++ [(x, s)]) ++ [], rowOk p := by
    intro p hp
    simp only [List.append_nil, List.mem_append, List.mem_singleton] at hp
    rcases hp with hp | rfl
    · exact h.ok p (by simp [hp])
    · exact hs
  have hf := h.fuse
  have hfu : (if 0 < D.fuse then D.fuse - 1 else D.fuse) ≤ 9223372036854775807 := by split <;> omega
  have hfu2 : (if 0 < (if 0 < D.fuse then D.fuse - 1 else D.fuse) then (if 0 < D.fuse then D.fuse - 1 else D.fuse) - 1 else (if 0 < D.fuse then D.fuse - 1 else D.fuse)) ≤ 9223372036854775807 := by split <;> omega
  have hrow : rowsB [(x, s)] = ringRow x s := by simp [rowsB]
  by_cases hq : D.quota < ((rowsB l).length + (ringRow x s).length : Nat)
  · left
    have ha : D.append ringB (ringRow x s) = (D, 12) := by
      unfold Dk.append
      rw [hn, has_one, bytes_one, if_pos rfl, if_pos (by push_cast at hq; exact hq)]
    unfold ringSet
    rw [if_neg hne, ha, if_pos (by simp)]
    exact ⟨rfl, rfl, hq⟩
  · right
    have ha : D.append ringB (ringRow x s) = D.done (rowEv (x, s)) := by
      unfold Dk.append
      rw [hn, has_one, bytes_one, if_pos rfl, if_neg (by push_cast at hq; exact hq)]
      rfl
    unfold ringSet
    rw [if_neg hne, ha]
    by_cases hd : D.dead = true ∨ D.fuse = 0
    · left
      have e : D.done (rowEv (x, s)) = ({ D with dead := true }, 13) := by
        unfold Dk.done
        rw [if_pos (by simpa using hd)]
      rw [e, if_pos (by simp)]
      refine ⟨rfl, rfl, rfl, by simp, ?_, .inl ⟨h.now, h.sure, h.pend, fun _ => rfl, h.fuse, h.ok⟩⟩
      rcases hd with hd | hd
      · exact .inl hd
      · exact .inr (by omega)
    · have hd1 : D.dead = false := by cases hh : D.dead with | false => rfl | true => exact absurd (.inl hh) hd
      have hd2 : D.fuse ≠ 0 := fun hh => hd (.inr hh)
      have e : D.done (rowEv (x, s)) = ({ D with fuse := (if 0 < D.fuse then D.fuse - 1 else D.fuse), trace := D.trace ++ [rowEv (x, s)], now := [(ringB, rowsB l ++ ringRow x s)], pend := D.pend ++ [rowEv (x, s)] }, 0) := by
        unfold Dk.done
        rw [if_neg (by simp [hd1, hd2]), if_neg (by simp [rowEv]), hn]
        have : Fs.did [(ringB, rowsB l)] (rowEv (x, s)) = [(ringB, rowsB l ++ ringRow x s)] := did_lay _ _ _
        rw [this]
      rw [e, if_neg (by simp)]
      by_cases hd3 : (if 0 < D.fuse then D.fuse - 1 else D.fuse) = 0
      · left
        have e2 : Dk.sync { D with fuse := (if 0 < D.fuse then D.fuse - 1 else D.fuse), trace := D.trace ++ [rowEv (x, s)], now := [(ringB, rowsB l ++ ringRow x s)], pend := D.pend ++ [rowEv (x, s)] } = ({ D with fuse := (if 0 < D.fuse then D.fuse - 1 else D.fuse), trace := D.trace ++ [rowEv (x, s)], now := [(ringB, rowsB l ++ ringRow x s)], pend := D.pend ++ [rowEv (x, s)], dead := true }, 13) := by
          unfold Dk.sync Dk.done
          rw [if_pos (by simp [hd3])]
        rw [e2, if_pos (by simp)]
        refine ⟨rfl, rfl, rfl, by simp, .inr (by split at hd3 <;> omega), .inr ⟨?_, h.sure, ?_, fun _ => rfl, hfu, by simpa using hok⟩⟩
        · simp only; rw [rowsB_append, hrow]
        · simp only [h.pend]; simp
      · right
        have e2 : Dk.sync { D with fuse := (if 0 < D.fuse then D.fuse - 1 else D.fuse), trace := D.trace ++ [rowEv (x, s)], now := [(ringB, rowsB l ++ ringRow x s)], pend := D.pend ++ [rowEv (x, s)] } = ({ D with fuse := (if 0 < (if 0 < D.fuse then D.fuse - 1 else D.fuse) then (if 0 < D.fuse then D.fuse - 1 else D.fuse) - 1 else (if 0 < D.fuse then D.fuse - 1 else D.fuse)), trace := D.trace ++ [rowEv (x, s)] ++ [⟨5, [], [], []⟩], now := [(ringB, rowsB l ++ ringRow x s)], sure := [(ringB, rowsB l ++ ringRow x s)], pend := [] }, 0) := by
          unfold Dk.sync Dk.done
          rw [if_neg (by simp [hd1, hd3]), if_pos rfl]
        rw [e2, if_neg (by simp)]
        refine ⟨rfl, hd1, hd1, rfl, by simp, fun hneg => ?_, hq, ⟨?_, ?_, rfl, by simp, hfu2, hok⟩⟩
        · simp only; rw [if_neg (by rw [if_neg (by omega)]; omega), if_neg (by omega)]
        · simp only; rw [List.append_nil, rowsB_append, hrow]
        · simp only; rw [rowsB_append, hrow]
end Go.Proofs.YtpkolkgndhagiaaGreat

/-! RingQ -/
namespace Go.Proofs.YtpkolkgndhagiaaGreat
open Go.RowKit Go.Maps

theorem ringPuts_mem {l : List RRow} {p : RRow} (h : p ∈ ringPuts l) : p ∈ l := by
  have : ∀ (l : List RRow) (M : Mp RSt), p ∈ l.foldl (fun M q => M.put q.1 q.2) M → p ∈ l ∨ p ∈ M := by
    intro l
    induction l with
    | nil => intro M h; exact .inr h
    | cons x r ih =>
      intro M h
      rcases ih _ h with h | h
      · exact .inl (by simp [h])
      · rcases Mp.mem_put.1 h with rfl | h
        · exact .inl (by simp)
        · exact .inr h.1
  rcases this l [] h with h | h
  · exact h
  · cases h
theorem ringPuts_ok {l : List RRow} (h : ∀ p ∈ l, rowOk p) (hl : l.length ≤ 1000000) : ringOk (ringPuts l) := by
  have h1 := ringPuts_length l
  exact ⟨by omega, fun p hp => (h p (ringPuts_mem hp)).2⟩
theorem ringSet_fail {D : Dk} {M : Mp RSt} {x : Bs} {s : RSt} (h : (ringSet D M x s).2.2 ≠ 0) : (ringSet D M x s).2.1 = M := by
  unfold ringSet at *
  split
  · rfl
  · split
    · rfl
    · split
      · rfl
      · rename_i h1 h2 h3
        rw [if_neg h1, if_neg h2, if_neg h3] at h
        exact absurd rfl h
theorem ringBegin_fail {D : Dk} {M : Mp RSt} {x : Bs} (h : (ringBegin D M x).2.2.2 ≠ 0) : (ringBegin D M x).2.1 = M ∧ (ringBegin D M x).2.2.1 = 0 := by
  unfold ringBegin at *
  split
  · exact ⟨rfl, rfl⟩
  · split
    · exact ⟨rfl, rfl⟩
    · split
      · exact ⟨rfl, rfl⟩
      · split
        · rename_i h4
          exact ⟨ringSet_fail h4, rfl⟩
        · rename_i h1 h2 h3 h4
          rw [if_neg h1, if_neg h2, if_neg h3, if_neg h4] at h
          exact absurd rfl h
theorem ringEnd_fail {D : Dk} {M : Mp RSt} {x : Bs} (h : (ringEnd D M x).2.2 ≠ 0) : (ringEnd D M x).2.1 = M := by
  unfold ringEnd at *
  split
  · rfl
  · split
    · rfl
    · rename_i h1 h2
      rw [if_neg h1, if_neg h2] at h
      exact ringSet_fail h
theorem append_full {D : Dk} (hq : D.quota ≤ 0) (x : Bs) (s : RSt) : (D.append ringB (ringRow x s)).2 ≠ 0 := by
  unfold Dk.append
  split
  · rw [if_pos]
    · simp
    · have : 0 < (ringRow x s).length := by
        rcases hr : ringRow x s with _ | ⟨a, r⟩
        · exact absurd hr (ringRow_ne x s)
        · simp
      omega
  · simp
theorem ringSet_full {D : Dk} {M : Mp RSt} {x : Bs} {s : RSt} (hq : D.quota ≤ 0) (hne : s ≠ ringState M x) : (ringSet D M x s).2.2 ≠ 0 := by
  have := append_full hq x s
  unfold ringSet
  rw [if_neg hne, if_pos this]
  exact this
theorem ringBegin_full {D : Dk} {M : Mp RSt} {x : Bs} (hq : D.quota ≤ 0) : (ringBegin D M x).2.2.2 ≠ 0 := by
  unfold ringBegin
  split
  · simp
  · split
    · simp
    · split
      · simp
      · rename_i h1 h2 h3
        have := ringSet_full (M := M) (x := x) (s := ⟨(ringState M x).now + 1, (ringState M x).now⟩) hq (by
          intro e
          have := congrArg RSt.now e
          simp at this)
        rw [if_pos this]
        exact this
theorem ringEnd_full {D : Dk} {M : Mp RSt} {x : Bs} (hq : D.quota ≤ 0) : (ringEnd D M x).2.2 ≠ 0 := by
  unfold ringEnd
  split
  · simp
  · split
    · simp
    · rename_i h1 h2
      exact ringSet_full hq (by
        intro e
        have := congrArg RSt.old e
        simp at this
        exact h2 this.symm)

/-- A ring's disk that nothing has broken; whatever room there is. -/
structure AliveQ (D : Dk) (l : List RRow) : Prop where
  rd : RD D l []
  dead : D.dead = false
  fuse : D.fuse < 0
  trace : D.trace.length ≤ 10 + 2 * l.length
theorem AliveQ.roomy {D : Dk} {l : List RRow} (h : AliveQ D l) (hl : l.length ≤ 3000) : D.Roomy 1000000 := h.rd.roomy (by have := h.trace; omega) (by simp; omega)
theorem AliveQ.rows {D : Dk} {l : List RRow} (h : AliveQ D l) : ∀ p ∈ l, rowOk p := fun p hp => h.rd.ok p (by simp [hp])
theorem AliveQ.ringOk {D : Dk} {l : List RRow} (h : AliveQ D l) (hl : l.length ≤ 3000) : ringOk (ringPuts l) := ringPuts_ok h.rows (by omega)
theorem AliveQ.set {D : Dk} {l : List RRow} (h : AliveQ D l) (x : Bs) (s : RSt) (hs : rowOk (x, s)) (hne : s ≠ ringState (ringPuts l) x) :
    ∃ l2, AliveQ (ringSet D (ringPuts l) x s).1 l2 ∧ (ringSet D (ringPuts l) x s).2.1 = ringPuts l2 ∧ l2.length ≤ l.length + 1 ∧ (ringSet D (ringPuts l) x s).1.quota = D.quota := by
  rcases h.rd.set (ringPuts l) x s hs hne with ⟨e1, e2, _⟩ | ⟨_, _, _, _, hd, _⟩ | ⟨e1, e2, _, e4, e5, e6, _, e8⟩
  · exact ⟨l, by rw [e2]; exact h, by rw [e1], by omega, by rw [e2]⟩
  · rw [h.dead] at hd
    have := h.fuse
    rcases hd with hd | hd
    · cases hd
    · omega
  · refine ⟨l ++ [(x, s)], ⟨e8, e2, by rw [e6 h.fuse]; exact h.fuse, ?_⟩, by rw [e1, ringPuts_snoc], by simp, e4⟩
    rw [e5]
    have := h.trace
    simp
    omega
/-- What an act of the kinds 0 and 1 does; others tell that there is no room. -/
def ringAct (D : Dk) (M : Mp RSt) (x : ActK) : Dk × Mp RSt × Int :=
  if x.kind = 0 then ((ringBegin D M x.key).1, (ringBegin D M x.key).2.1, (ringBegin D M x.key).2.2.2)
  else if x.kind = 1 then ringEnd D M x.key
  else (D, M, 12)
theorem AliveQ.act {D : Dk} {l : List RRow} (h : AliveQ D l) (x : ActK) (hl : l.length ≤ 3000) :
    ∃ l2, AliveQ (ringAct D (ringPuts l) x).1 l2 ∧ (ringAct D (ringPuts l) x).2.1 = ringPuts l2 ∧ l2.length ≤ l.length + 1 ∧ (ringAct D (ringPuts l) x).1.quota = D.quota := by
  have hst := (h.ringOk hl).state x.key
  have hsame : ∃ l2, AliveQ D l2 ∧ ringPuts l = ringPuts l2 ∧ l2.length ≤ l.length + 1 ∧ D.quota = D.quota := ⟨l, h, rfl, by omega, rfl⟩
  unfold ringAct
  split
  · unfold ringBegin
    split
    · exact hsame
    · split
      · exact hsame
      · split
        · exact hsame
        · rename_i h1 h2 h3
          obtain ⟨l2, a1, a2, a3, a4⟩ := h.set x.key ⟨(ringState (ringPuts l) x.key).now + 1, (ringState (ringPuts l) x.key).now⟩ ⟨by simp only; omega, by simp only; omega, by simp only; omega⟩ (by
            intro e
            have := congrArg RSt.now e
            simp at this)
          split
          · exact ⟨l2, a1, a2, a3, a4⟩
          · exact ⟨l2, a1, a2, a3, a4⟩
  · split
    · unfold ringEnd
      split
      · exact hsame
      · split
        · exact hsame
        · rename_i h1 h2
          exact h.set x.key ⟨(ringState (ringPuts l) x.key).now, 0⟩ ⟨by simp only; omega, by simp only; omega, by simp⟩ (by
            intro e
            have := congrArg RSt.old e
            simp at this
            exact h2 this.symm)
    · exact hsame
theorem ringAct_fail {D : Dk} {M : Mp RSt} {x : ActK} (h : (ringAct D M x).2.2 ≠ 0) : (ringAct D M x).2.1 = M := by
  unfold ringAct at *
  split
  · rename_i h1
    rw [if_pos h1] at h
    exact (ringBegin_fail h).1
  · split
    · rename_i h1 h2
      rw [if_neg h1, if_pos h2] at h
      exact ringEnd_fail h
    · rfl
theorem ringAct_full {D : Dk} {M : Mp RSt} {x : ActK} (hq : D.quota ≤ 0) : (ringAct D M x).2.2 ≠ 0 := by
  unfold ringAct
  split
  · exact ringBegin_full hq
  · split
    · exact ringEnd_full hq
    · simp
end Go.Proofs.YtpkolkgndhagiaaGreat

/-! RingR -/
namespace Go.Proofs.YtpkolkgndhagiaaGreat
open Go.RowKit Go.Maps

def st (l : List RRow) (d : Bs) : RSt := ringState (ringPuts l) d
theorem st_snoc (l : List RRow) (x : Bs) (s : RSt) (d : Bs) : st (l ++ [(x, s)]) d = if x = d then s else st l d := by
  unfold st ringState
  rw [ringPuts_snoc, Mp.get_put]
  split <;> rfl
def row2 (s : RSt) : Prop := 1 ≤ s.now ∧ (s.old = 0 ∨ s.old = s.now - 1)
structure Rise (D : Dk) (l t : List RRow) : Prop where
  rd : RD D l t
  two : ∀ p ∈ l ++ t, row2 p.2
  step : t = [] ∨ ∃ x s, t = [(x, s)] ∧ (s.now = (st l x).now ∨ s.now = (st l x).now + 1)
theorem st_two {l : List RRow} (h : ∀ p ∈ l, row2 p.2) (d : Bs) : row2 (st l d) := by
  unfold st ringState Mp.get
  cases hf : (ringPuts l).find? fun p => p.1 == d with
  | none => exact ⟨by simp, by simp⟩
  | some p => exact h p (ringPuts_mem (List.mem_of_find?_eq_some hf))
theorem Rise.st {D : Dk} {l t : List RRow} (h : Rise D l t) (d : Bs) : row2 (st l d) := st_two (fun p hp => h.two p (by simp [hp])) d
def KE (l : List RRow) (K : Mp Nat) : Prop := ∀ p ∈ K, p.2 = (st l p.1).now
def KW (l : List RRow) (K : Mp Nat) : Prop := ∀ p ∈ K, p.2 ≤ (st l p.1).now ∧ (st l p.1).now ≤ p.2 + 1
theorem KE.weak {l : List RRow} {K : Mp Nat} (h : KE l K) : KW l K := fun p hp => by have := h p hp; omega
/-- How things stand ahead of an act (b: a bound). -/
structure RInv (b : Nat) (D : Dk) (M : Mp RSt) (K : Mp Nat) (l t : List RRow) : Prop where
  rise : Rise D l t
  map : D.dead = false → M = ringPuts l
  ok : ringOk M
  exact : KE l K
  trace : D.trace.length ≤ 10 + 2 * b
  rows : (l ++ t).length ≤ b
  keys : K.length ≤ b
/-- .. and behind it (re: the ring is to be opened anew). -/
structure Mid (b : Nat) (re : Bool) (D : Dk) (M : Mp RSt) (K : Mp Nat) (l t : List RRow) : Prop where
  rise : Rise D l t
  map : D.dead = false → re = false → M = ringPuts l
  ok : ringOk M
  exact : D.dead = true → KE l K
  weak : D.dead = false → KW l K
  trace : D.trace.length ≤ 10 + 2 * b
  rows : (l ++ t).length ≤ b
  keys : K.length ≤ b
theorem RInv.roomy {b : Nat} {D : Dk} {M : Mp RSt} {K : Mp Nat} {l t : List RRow} (h : RInv b D M K l t) (hb : b ≤ 3000) : D.Roomy 1000000 := h.rise.rd.roomy (by have := h.trace; omega) (by have := h.rows; omega)
theorem Mid.roomy {b : Nat} {re : Bool} {D : Dk} {M : Mp RSt} {K : Mp Nat} {l t : List RRow} (h : Mid b re D M K l t) (hb : b ≤ 3000) : D.Roomy 1000000 := h.rise.rd.roomy (by have := h.trace; omega) (by have := h.rows; omega)
theorem RInv.mid {b : Nat} {D : Dk} {M : Mp RSt} {K : Mp Nat} {l t : List RRow} (h : RInv b D M K l t) (re : Bool) : Mid (b + 1) re D M K l t :=
  ⟨h.rise, fun hd _ => h.map hd, h.ok, fun _ => h.exact, fun _ => h.exact.weak, by have := h.trace; omega, by have := h.rows; omega, by have := h.keys; omega⟩
theorem RInv.quota {b : Nat} {D : Dk} {M : Mp RSt} {K : Mp Nat} {l t : List RRow} (h : RInv b D M K l t) (q : Int) : Mid (b + 1) false { D with quota := q } M K l t := by
  have m := h.mid false
  exact ⟨⟨h.rise.rd.quota q, h.rise.two, h.rise.step⟩, m.map, m.ok, m.exact, m.weak, m.trace, m.rows, m.keys⟩
theorem setFuse_dead (D : Dk) (n : Int) : (D.setFuse n).dead = D.dead := by unfold Dk.setFuse; split <;> rfl
theorem setFuse_trace (D : Dk) (n : Int) : (D.setFuse n).trace = D.trace := by unfold Dk.setFuse; split <;> rfl
theorem RInv.fuse {b : Nat} {D : Dk} {M : Mp RSt} {K : Mp Nat} {l t : List RRow} (h : RInv b D M K l t) (n : Int) (hn : n ≤ 9223372036854775807) : Mid (b + 1) false (D.setFuse n) M K l t := by
  have m := h.mid false
  exact ⟨⟨h.rise.rd.setFuse n hn, h.rise.two, h.rise.step⟩, by rw [setFuse_dead]; exact m.map, m.ok, by rw [setFuse_dead]; exact m.exact, by rw [setFuse_dead]; exact m.weak, by rw [setFuse_trace]; exact m.trace, m.rows, m.keys⟩
theorem RInv.crash {b : Nat} {D : Dk} {M : Mp RSt} {K : Mp Nat} {l t : List RRow} (h : RInv b D M K l t) (n : Int) : ∃ l2, Mid (b + 1) true (D.crash n) M K l2 [] := by
  refine ⟨l ++ t.take n.toNat, ⟨h.rise.rd.crash n, ?_, .inl rfl⟩, (fun _ hh => by cases hh), h.ok, (fun hd => by simp [Dk.crash] at hd), fun _ p hp => ?_, by have := h.trace; simp only [Dk.crash]; omega, ?_, by have := h.keys; omega⟩
  · intro p hp
    refine h.rise.two p ?_
    simp only [List.append_nil, List.mem_append] at hp ⊢
    exact hp.imp id List.mem_of_mem_take
  · have he := h.exact p hp
    rcases h.rise.step with rfl | ⟨x, s, rfl, hs⟩
    · simp only [List.take_nil, List.append_nil]
      omega
    · cases hn : n.toNat with
      | zero => simp only [List.take_zero, List.append_nil]; omega
      | succ m =>
        simp only [List.take_succ_cons, List.take_nil]
        rw [st_snoc]
        split
        · rename_i hx
          subst hx
          omega
        · omega
  · have := h.rows
    simp at this ⊢
    omega
theorem ringSet_dead {D : Dk} {M : Mp RSt} {x : Bs} {s : RSt} (hd : D.dead = true) : (ringSet D M x s).1 = D ∧ (ringSet D M x s).2.1 = M ∧ (s ≠ ringState M x → (ringSet D M x s).2.2 ≠ 0) := by
  have hdd : ({ D with dead := true } : Dk) = D := by cases D; simp_all
  have ha : ∃ c, c ≠ 0 ∧ D.append ringB (ringRow x s) = (D, c) := by
    unfold Dk.append
    split
    · split
      · exact ⟨12, by decide, rfl⟩
      · refine ⟨13, by decide, ?_⟩
        unfold Dk.done
        rw [if_pos (by simp [hd]), hdd]
    · exact ⟨10, by decide, rfl⟩
  obtain ⟨c, hc, ha⟩ := ha
  unfold ringSet
  split
  · exact ⟨rfl, rfl, fun h => absurd ‹_› h⟩
  · rw [ha, if_pos hc]
    exact ⟨rfl, rfl, fun _ => hc⟩
/-- What setting a state leads to, where it rises or stays. -/
theorem RInv.set {b : Nat} {D : Dk} {M : Mp RSt} {K : Mp Nat} {l t : List RRow} (h : RInv b D M K l t) (x : Bs) (s : RSt) (hs : rowOk (x, s)) (h2 : row2 s) (hne : s ≠ ringState M x) (hup : D.dead = false → s.now = (st l x).now ∨ s.now = (st l x).now + 1) :
    ((ringSet D M x s).2.2 ≠ 0 ∧ (ringSet D M x s).2.1 = M ∧ ∃ l2 t2, Mid (b + 1) false (ringSet D M x s).1 M K l2 t2) ∨
    (D.dead = false ∧ (ringSet D M x s).2 = (M.put x s, 0) ∧ (ringSet D M x s).1.dead = false ∧ Rise (ringSet D M x s).1 (l ++ [(x, s)]) [] ∧ (ringSet D M x s).1.trace.length ≤ 10 + 2 * (b + 1) ∧ t = []) := by
  have hm := h.mid false
  have ht := h.trace
  cases hd : D.dead with
  | true =>
    obtain ⟨e1, e2, e3⟩ := ringSet_dead (M := M) (x := x) (s := s) hd
    exact .inl ⟨e3 hne, e2, l, t, by rw [e1]; exact hm⟩
  | false =>
    have ht0 : t = [] := by
      cases t with
      | nil => rfl
      | cons a r => have := h.rise.rd.dead (by simp); rw [hd] at this; cases this
    subst ht0
    have htwo : ∀ p ∈ (l ++ [(x, s)]) ++ [], row2 p.2 := by
      intro p hp
      simp only [List.append_nil, List.mem_append, List.mem_singleton] at hp
      rcases hp with hp | rfl
      · exact h.rise.two p (by simp [hp])
      · exact h2
    rcases h.rise.rd.set M x s hs hne with ⟨e1, e2, _⟩ | ⟨e1, e2, e3, e4, _, e5⟩ | ⟨e1, e2, _, e4, e5, e6, _, e8⟩
    · exact .inl ⟨by rw [e1]; simp, by rw [e1], l, [], by rw [e2]; exact hm⟩
    · refine .inl ⟨by rw [e1]; simp, by rw [e1], ?_⟩
      rcases e5 with e5 | e5
      · exact ⟨l, [], ⟨e5, h.rise.two, .inl rfl⟩, (fun hh => by rw [e2] at hh; cases hh), h.ok, fun _ => h.exact, fun _ => h.exact.weak, by omega, hm.rows, hm.keys⟩
      · exact ⟨l, [(x, s)], ⟨e5, by simpa using htwo, .inr ⟨x, s, rfl, hup hd⟩⟩, (fun hh => by rw [e2] at hh; cases hh), h.ok, fun _ => h.exact, fun _ => h.exact.weak, by omega, by have := h.rows; simp at this ⊢; omega, hm.keys⟩
    · exact .inr ⟨rfl, e1, e2, ⟨e8, htwo, .inl rfl⟩, by omega, rfl⟩
theorem get_mem {K : Mp Nat} {x : Bs} {n : Nat} (h : K.get x = some n) : (x, n) ∈ K := by
  unfold Mp.get at h
  obtain ⟨p, hp, he⟩ := Option.map_eq_some_iff.1 h
  have h1 := List.find?_some hp
  have h2 := List.mem_of_find?_eq_some hp
  simp only [beq_iff_eq] at h1
  rw [← h1, ← he]
  exact h2
theorem RInv.begin {b : Nat} {D : Dk} {M : Mp RSt} {K : Mp Nat} {l t : List RRow} (h : RInv b D M K l t) (x : Bs) (hb : b ≤ 1000) :
    ((ringBegin D M x).2.2.2 = 0 ∧ (K.get x).getD 0 < (ringBegin D M x).2.2.1 ∧ 2 ≤ (ringBegin D M x).2.2.1 ∧ ∃ l2 t2, Mid (b + 1) false (ringBegin D M x).1 (ringBegin D M x).2.1 (K.put x (ringBegin D M x).2.2.1) l2 t2) ∨
    ((ringBegin D M x).2.2.2 ≠ 0 ∧ (ringBegin D M x).2.2.1 = 0 ∧ ∃ l2 t2, Mid (b + 1) false (ringBegin D M x).1 (ringBegin D M x).2.1 K l2 t2) := by
  have hm := h.mid false
  have hst := h.ok.state x
  unfold ringBegin
  split
  · exact .inr ⟨by simp, rfl, l, t, hm⟩
  · split
    · exact .inr ⟨by simp, rfl, l, t, hm⟩
    · split
      · exact .inr ⟨by simp, rfl, l, t, hm⟩
      · rename_i h1 h2 h3
        have hne : (⟨(ringState M x).now + 1, (ringState M x).now⟩ : RSt) ≠ ringState M x := by
          intro e
          have := congrArg RSt.now e
          simp at this
        have hset := h.set x ⟨(ringState M x).now + 1, (ringState M x).now⟩ ⟨by simp only; omega, by simp only; omega, by simp only; omega⟩ ⟨by simp, .inr (by simp)⟩ hne (fun hd => .inr (by rw [h.map hd]; rfl))
        rcases hset with ⟨e1, e2, l2, t2, e3⟩ | ⟨e0, e1, e2, e3, e4, rfl⟩
        · rw [if_pos e1, e2]
          exact .inr ⟨e1, rfl, l2, t2, e3⟩
        · have hM := h.map e0
          rw [if_neg (by rw [e1]; simp)]
          left
          have hn : (ringState M x).now = (st l x).now := by rw [hM]; rfl
          have hp : M.put x ⟨(ringState M x).now + 1, (ringState M x).now⟩ = ringPuts (l ++ [(x, ⟨(ringState M x).now + 1, (ringState M x).now⟩)]) := by
            rw [ringPuts_snoc, ← hM]
          refine ⟨rfl, ?_, ?_, l ++ [(x, ⟨(ringState M x).now + 1, (ringState M x).now⟩)], [], ⟨e3, (fun _ _ => by rw [e1]; exact hp), ?_, fun hh => ?_, fun _ p hp => ?_, e4, ?_, ?_⟩⟩
          · cases hg : K.get x with
            | none => simp
            | some n =>
              have := h.exact _ (get_mem hg)
              simp only [Option.getD_some]
              dsimp only at this
              omega
          · have := (h.rise.st x).1
            simp only
            omega
          · rw [e1]
            dsimp only
            rw [hp]
            refine ringPuts_ok (fun p hp => e3.rd.ok p (by simpa using hp)) ?_
            have := h.rows
            simp at this ⊢
            omega
          · rw [e2] at hh
            cases hh
          · rcases Mp.mem_put.1 hp with rfl | ⟨hp, hpx⟩
            · dsimp only
              rw [st_snoc, if_pos rfl]
              simp
            · rw [st_snoc, if_neg (fun e => hpx e.symm)]
              have := h.exact p hp
              omega
          · have := h.rows
            simp at this ⊢
            omega
          · have := Mp.length_put_le K x ((ringState M x).now + 1)
            have := h.keys
            dsimp only
            omega
theorem RInv.end {b : Nat} {D : Dk} {M : Mp RSt} {K : Mp Nat} {l t : List RRow} (h : RInv b D M K l t) (x : Bs) (hb : b ≤ 1000) :
    ∃ l2 t2, Mid (b + 1) false (ringEnd D M x).1 (ringEnd D M x).2.1 K l2 t2 := by
  have hm := h.mid false
  have hst := h.ok.state x
  unfold ringEnd
  split
  · exact ⟨l, t, hm⟩
  · split
    · exact ⟨l, t, hm⟩
    · rename_i h1 h2
      have hne : (⟨(ringState M x).now, 0⟩ : RSt) ≠ ringState M x := by
        intro e
        have := congrArg RSt.old e
        simp at this
        exact h2 this.symm
      cases hd : D.dead with
      | true =>
        obtain ⟨e1, e2, e3⟩ := ringSet_dead (M := M) (x := x) (s := ⟨(ringState M x).now, 0⟩) hd
        exact ⟨l, t, by rw [e1, e2]; exact hm⟩
      | false =>
        have hM := h.map hd
        have hn : (ringState M x).now = (st l x).now := by rw [hM]; rfl
        have hset := h.set x ⟨(ringState M x).now, 0⟩ ⟨by simp only; omega, by simp only; omega, by simp⟩ ⟨by simp only; rw [hn]; exact (h.rise.st x).1, .inl rfl⟩ hne (fun hd => .inl (by rw [h.map hd]; rfl))
        rcases hset with ⟨e1, e2, l2, t2, e3⟩ | ⟨e0, e1, e2, e3, e4, rfl⟩
        · exact ⟨l2, t2, by rw [e2]; exact e3⟩
        · have hp := ringPuts_snoc l (x, (⟨(ringState M x).now, 0⟩ : RSt))
          dsimp only at hp
          refine ⟨l ++ [(x, ⟨(ringState M x).now, 0⟩)], [], ⟨e3, fun _ _ => by rw [e1, hp, ← hM], ?_, fun hh => (by rw [e2] at hh; cases hh), fun _ p hp => ?_, e4, ?_, by have := h.keys; omega⟩⟩
          · rw [e1]
            dsimp only
            rw [show M.put x ⟨(ringState M x).now, 0⟩ = ringPuts (l ++ [(x, ⟨(ringState M x).now, 0⟩)]) by rw [hp, ← hM]]
            refine ringPuts_ok (fun p hp => e3.rd.ok p (by simpa using hp)) ?_
            have := h.rows
            simp at this ⊢
            omega
          · have := h.exact p hp
            rw [st_snoc]
            split
            · rename_i hx
              subst hx
              simp only
              omega
            · omega
          · have := h.rows
            simp at this ⊢
            omega
/-- Opened anew (re: it had to be). -/
theorem Mid.reopen {b : Nat} {re : Bool} {D : Dk} {M : Mp RSt} {K : Mp Nat} {l t : List RRow} (h : Mid b re D M K l t) (hb : b ≤ 1000) : ringOpen D = (D, some (ringPuts (l ++ t)), 0) ∧ Mid b false D (ringPuts (l ++ t)) K l t := by
  refine ⟨h.rise.rd.open, h.rise, fun hd _ => ?_, ringPuts_ok h.rise.rd.ok (by have := h.rows; omega), h.exact, h.weak, h.trace, h.rows, h.keys⟩
  cases t with
  | nil => rw [List.append_nil]
  | cons a r => have := h.rise.rd.dead (by simp); rw [hd] at this; cases this
theorem Mid.inv {b : Nat} {D : Dk} {M : Mp RSt} {K : Mp Nat} {l t : List RRow} (h : Mid b false D M K l t) (he : KE l K) : RInv b D M K l t := ⟨h.rise, fun hd => h.map hd rfl, h.ok, he, h.trace, h.rows, h.keys⟩
end Go.Proofs.YtpkolkgndhagiaaGreat

/-! Aw14 -/
namespace Go.Proofs.YtpkolkgndhagiaaGreat
open Go.RowKit Go.Maps

def aw14a : Dk := (ringOpen Dk.new).1
def aw14b : Dk := (ringBegin aw14a [] [97]).1
def aw14c : Dk := (ringEnd aw14b [([97], ⟨2, 1⟩)] [97]).1
theorem aw14_1 : ringOpen Dk.new = (aw14a, some [], 0) := by rfl
theorem aw14_2 : ringBegin aw14a [] [97] = (aw14b, [([97], ⟨2, 1⟩)], 2, 0) := by rfl
theorem aw14_3 : ringBegin aw14b [([97], ⟨2, 1⟩)] [97] = (aw14b, [([97], ⟨2, 1⟩)], 0, 11) := by rfl
theorem aw14_4 : ringEnd aw14b [([97], ⟨2, 1⟩)] [97] = (aw14c, [([97], ⟨2, 0⟩)], 0) := by rfl
theorem aw14_5 : ringEnd aw14c [([97], ⟨2, 0⟩)] [97] = (aw14c, [([97], ⟨2, 0⟩)], 10) := by rfl
theorem aw14_6 : ringOpen aw14c = (aw14c, some [([97], ⟨2, 0⟩)], 0) := by rfl
theorem aw14_ra : aw14a.Roomy 100 := ⟨by decide, by decide, by decide, by decide, by decide⟩
theorem aw14_rb : aw14b.Roomy 100 := ⟨by decide, by decide, by decide, by decide, by decide⟩
theorem aw14_rc : aw14c.Roomy 100 := ⟨by decide, by decide, by decide, by decide, by decide⟩
theorem aw14_rn : Dk.new.Roomy 100 := ⟨by decide, by decide, by decide, by decide, by decide⟩

theorem ringOk_1 (n o : Nat) (hn : n ≤ 1000000) (ho : o ≤ 1000000) : ringOk [([97], ⟨n, o⟩)] := ⟨by simp, by simp; omega⟩
theorem ringOk_0 : ringOk [] := ⟨by decide, by simp⟩
set_option maxRecDepth 100000 in
set_option maxHeartbeats 4000000 in
theorem awake14S {w0 w : World} {F0 : List Nat} {L : List Res} (S : Sp w0 F0 w L) : Calls Tryz.prog 4 #[] w fun e w2 => e = .returned (.bool true) ∧ Sp w0 F0 w2 L := by
  have HS0 := Lib.hid S
  clear S
  go_enter Tryz.func4, Tryz.ntmps4
  go_wp2_with fail
  refine (newS HS0.out).mono ?_
  rintro e w1 ⟨d, rfl, S⟩
  have HS1 := Lib.hid S
  clear S
  go_wp2_with fail
  refine (ringOpenS 100 Dk.new HS1.out aw14_rn (by decide)).mono ?_
  rw [aw14_1]
  rintro e w2 ⟨p, rfl, S⟩
  have HS2 := Lib.hid S
  clear S HS1
  dsimp only
  go_wp2_with fail
  refine (ringBeginS [97] 100 aw14a HS2.out (by decide) ringOk_0 aw14_ra (by decide)).mono ?_
  rw [aw14_2]
  rintro e w3 ⟨rfl, S⟩
  have HS3 := Lib.hid S
  clear S HS2
  dsimp only
  go_wp2_with fail
  refine (ringBeginS [97] 100 aw14b HS3.out (by decide) (ringOk_1 2 1 (by decide) (by decide)) aw14_rb (by decide)).mono ?_
  rw [aw14_3]
  rintro e w4 ⟨rfl, S⟩
  have HS4 := Lib.hid S
  clear S HS3
  dsimp only
  go_wp2_with fail
  refine (ringStateS [97] HS4.out (by decide)).mono ?_
  rw [show (ringState [([97], ⟨2, 1⟩)] [97]) = ⟨2, 1⟩ from rfl]
  rintro e w5 ⟨rfl, S⟩
  have HS5 := Lib.hid S
  clear S HS4
  have S5 := HS5.out.box #[.int .u64 2, .int .u64 1] 51
  have HS5b := Lib.hid S5.pull2.pull2
  clear S5
  dsimp only
  go_wp2_with fail
  refine (ringEndS [97] 100 aw14b HS5b.out (by decide) (ringOk_1 2 1 (by decide) (by decide)) aw14_rb (by decide)).mono ?_
  rw [aw14_4]
  rintro e w6 ⟨rfl, S⟩
  have HS6 := Lib.hid S
  clear S HS5
  clear HS5b
  dsimp only
  go_wp2_with fail
  refine (ringEndS [97] 100 aw14c HS6.out (by decide) (ringOk_1 2 0 (by decide) (by decide)) aw14_rc (by decide)).mono ?_
  rw [aw14_5]
  rintro e w7 ⟨rfl, S⟩
  have HS7 := Lib.hid S
  clear S HS6
  dsimp only
  have HS7b := Lib.hid HS7.out.pull1
  go_wp2_with fail
  refine (ringOpenS 100 aw14c HS7b.out aw14_rc (by decide)).mono ?_
  rw [aw14_6]
  rintro e w8 ⟨p2, rfl, S⟩
  have HS8 := Lib.hid S
  clear S HS7
  clear HS7b
  dsimp only
  go_wp2_with fail
  refine (ringOpen_nil HS8.out).mono ?_
  rintro e w9 ⟨rfl, S⟩
  have HS9 := Lib.hid S
  clear S HS8
  have c := (Sp.pick [_, _, _, _] [3] (by decide) (HS9.out)).cell
  go_wp2_with fail
  refine (ringStateS [97] HS9.out (by decide)).mono ?_
  rw [show (ringState [([97], ⟨2, 0⟩)] [97]) = ⟨2, 0⟩ from rfl]
  rintro e w10 ⟨rfl, S⟩
  have HS10 := Lib.hid S
  clear S HS9
  clear c
  dsimp only
  go_wp2_with fail
  refine (ringStateS [98] HS10.out (by decide)).mono ?_
  rw [show (ringState [([97], ⟨2, 0⟩)] [98]) = ⟨1, 0⟩ from rfl]
  rintro e w11 ⟨rfl, S⟩
  have HS11 := Lib.hid S
  clear S HS10
  dsimp only
  go_wp2_with fail
  refine (ringLiveS [97] 2 HS11.out (by decide) (by decide)).mono ?_
  rw [show (ringState [([97], ⟨2, 0⟩)] [97]) = ⟨2, 0⟩ from rfl]
  rintro e w12 ⟨rfl, S⟩
  have HS12 := Lib.hid S
  clear S HS11
  rw [show (decide (0 < 2) && (decide (2 = (⟨2, 0⟩ : RSt).now) || decide (2 = (⟨2, 0⟩ : RSt).old))) = true from rfl]
  go_wp2_with fail
  refine (ringLiveS [97] 1 HS12.out (by decide) (by decide)).mono ?_
  rw [show (ringState [([97], ⟨2, 0⟩)] [97]) = ⟨2, 0⟩ from rfl]
  rintro e w13 ⟨rfl, S⟩
  have HS13 := Lib.hid S
  clear S HS12
  rw [show (decide (0 < 1) && (decide (1 = (⟨2, 0⟩ : RSt).now) || decide (1 = (⟨2, 0⟩ : RSt).old))) = false from rfl]
  go_wp2_with fail
  refine (ringLiveS [97] 0 HS13.out (by decide) (by decide)).mono ?_
  rw [show (ringState [([97], ⟨2, 0⟩)] [97]) = ⟨2, 0⟩ from rfl]
  rintro e w14 ⟨rfl, S⟩
  have HS14 := Lib.hid S
  clear S HS13
  rw [show (decide (0 < 0) && (decide (0 = (⟨2, 0⟩ : RSt).now) || decide (0 = (⟨2, 0⟩ : RSt).old))) = false from rfl]
  go_wp2_with fail
  refine (ringDomainsS HS14.out (by decide)).mono ?_
  rintro e w15 ⟨v, rfl, S⟩
  obtain ⟨F, ⟨_, hrow⟩, _⟩ := S.take
  obtain ⟨a, cap, rfl⟩ : ∃ a cap, v = .slice a 1 cap := by
    rcases hrow.2 with ⟨_, h0⟩ | ⟨g, cap, cur, he, _⟩
    · cases h0
    · exact ⟨_, _, he⟩
  have HS15 := Lib.hid S
  clear S hrow HS14
  go_wp2_with fail
  refine (ringKeyS [97] 1 HS15.out (by decide) (by decide)).mono ?_
  rw [show ringKey [97] 1 = [1, 1, 97, 1, 1] from rfl]
  rintro e w16 ⟨rfl, S⟩
  have HS16 := Lib.hid S
  clear S HS15
  go_wp2
  go_ret
  exact ⟨rfl, (Sp.pick [_, _, _, _, _] [] (by decide) (HS16.out))⟩
end Go.Proofs.YtpkolkgndhagiaaGreat

/-! Lg14 -/
namespace Go.Proofs.YtpkolkgndhagiaaGreat
open Go.RowKit Go.Maps

abbrev ActK.agg (x : ActK) : Value := .agg #[.int .i64 x.kind, .int .i64 x.n, .string ⟨x.key.toArray⟩]
abbrev ActK.box (x : ActK) : Array Value := #[.int .i64 x.kind, .int .i64 x.n, .string ⟨x.key.toArray⟩]
theorem aw14a_aliveQ : AliveQ aw14a [] := ⟨⟨rfl, rfl, rfl, by simp, by decide, by simp⟩, rfl, by decide, by decide⟩

set_option maxRecDepth 100000 in
set_option maxHeartbeats 400000 in
theorem large14S {w0 w : World} {F0 : List Nat} {L : List Res} (k n : Int) (x : Bs) (S : Sp w0 F0 w L) (hx : x.length ≤ maxLen) :
    Calls Tryz.prog 9 #[.agg #[.int .i64 k, .int .i64 n, .string ⟨x.toArray⟩]] w fun e w2 => e = .returned (.bool (decide (1000 < x.length))) ∧ Sp w0 F0 w2 L := by
  have HS := Lib.hid S
  unfold maxLen at hx
  have hx' : (x.length : Int) ≤ 9223372036854775807 := by omega
  clear S hx
  go_enter Tryz.func9, Tryz.ntmps9
  go_wp2
  go_ret
  refine ⟨ret_bool ?_, HS.out.new _⟩
  rw [Bool.eq_iff_iff]
  simp
  omega
end Go.Proofs.YtpkolkgndhagiaaGreat
