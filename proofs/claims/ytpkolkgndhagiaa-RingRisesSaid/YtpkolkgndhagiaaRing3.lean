/- ring: Open. Conditions: the lengths fit. -/
import Derived.Test.YtpkolkgndhagiaaRing2
namespace Go.Proofs.Ytpkolkgndhagiaa
open Go.RowKit Go.Maps

/-- The rows that bytes begin with, and what is left behind them. -/
def ringScan : Nat → Bs → List (Bs × RSt) × Bs
  | 0, s => ([], s)
  | f + 1, s => if (ringRead ⟨s, false⟩).2.2.1 then (((ringRead ⟨s, false⟩).1, (ringRead ⟨s, false⟩).2.1) :: (ringScan f (ringRead ⟨s, false⟩).2.2.2.s).1, (ringScan f (ringRead ⟨s, false⟩).2.2.2.s).2) else ([], s)
def ringPuts (l : List (Bs × RSt)) : Mp RSt := l.foldl (fun M p => M.put p.1 p.2) []
def ringFile (D : Dk) : Bs := (D.now.get ringB).getD []
def ringRows (s : Bs) : List (Bs × RSt) := (ringScan (s.length + 1) s).1
def ringRest (s : Bs) : Bs := (ringScan (s.length + 1) s).2
def ringOpen (D : Dk) : Dk × Option (Mp RSt) × Int :=
  if D.now.has ringB = true ∧ ringRest (ringFile D) = [] then (D, some (ringPuts (ringRows (ringFile D))), 0)
  else if (D.write ringB ((ringFile D).take ((ringFile D).length - (ringRest (ringFile D)).length))).2 ≠ 0 then ((D.write ringB ((ringFile D).take ((ringFile D).length - (ringRest (ringFile D)).length))).1, none, (D.write ringB ((ringFile D).take ((ringFile D).length - (ringRest (ringFile D)).length))).2)
  else if (D.write ringB ((ringFile D).take ((ringFile D).length - (ringRest (ringFile D)).length))).1.sync.2 ≠ 0 then ((D.write ringB ((ringFile D).take ((ringFile D).length - (ringRest (ringFile D)).length))).1.sync.1, none, (D.write ringB ((ringFile D).take ((ringFile D).length - (ringRest (ringFile D)).length))).1.sync.2)
  else ((D.write ringB ((ringFile D).take ((ringFile D).length - (ringRest (ringFile D)).length))).1.sync.1, some (ringPuts (ringRows (ringFile D))), 0)
def OpenPost (w0 : World) (F0 : List Nat) (L : List Res) (d : Nat) (R : Dk × Option (Mp RSt) × Int) (e : Ending) (w2 : World) : Prop :=
  match R.2.1 with
  | none => e = .returned (.tuple #[.pointer none, .int .i64 R.2.2]) ∧ Sp w0 F0 w2 (diskR d R.1 :: L)
  | some M => ∃ p, e = .returned (.tuple #[.pointer (some ⟨p, 0, none⟩), .int .i64 R.2.2]) ∧ Sp w0 F0 w2 (ringR p d M :: diskR d R.1 :: L)

theorem done_bad {r : Rd} (h : r.done = 0) : r.bad = false ∧ r.s = [] := by
  unfold Rd.done at h
  split at h
  · cases h
  · split at h
    · rename_i h1 h2
      exact ⟨by simpa using h1, by simpa using h2⟩
    · cases h
theorem ringRead_nil : (ringRead ⟨[], false⟩).2.2.1 = false := by decide
/-- What a row that could be read is, and that there was one. -/
theorem ringRead_ok {s : Bs} (h : (ringRead ⟨s, false⟩).2.2.1 = true) :
    (ringRead ⟨s, false⟩).2.2.2.bad = false ∧ s = ringRow (ringRead ⟨s, false⟩).1 (ringRead ⟨s, false⟩).2.1 ++ (ringRead ⟨s, false⟩).2.2.2.s ∧ (ringRead ⟨s, false⟩).2.2.2.s.length < s.length ∧ (ringRead ⟨s, false⟩).1.length ≤ 255 ∧ (ringRead ⟨s, false⟩).2.1.now ≤ 1000000 ∧ (ringRead ⟨s, false⟩).2.1.old ≤ 1000000 := by
  unfold ringRead at h ⊢
  simp only [decide_eq_true_eq] at h ⊢
  obtain ⟨b3, e3⟩ := done_bad h
  obtain ⟨b2, e2⟩ := num_ok b3
  obtain ⟨b1, e1⟩ := num_ok b2
  obtain ⟨b0, e0⟩ := text_ok b1
  have l1 := text_fst_le ⟨(Rd.text ⟨s, false⟩ 300).1, false⟩ 255
  have l2 := num_le (Rd.text ⟨(Rd.text ⟨s, false⟩ 300).1, false⟩ 255).2 1000000
  have l3 := num_le ((Rd.text ⟨(Rd.text ⟨s, false⟩ 300).1, false⟩ 255).2.num 1000000).2 1000000
  have hb : (Rd.text ⟨s, false⟩ 300).2.bad = false := by
    cases hh : (Rd.text ⟨s, false⟩ 300).2.bad with
    | false => rfl
    | true =>
      exfalso
      have ht : (Rd.text ⟨s, false⟩ 300).1 = [] := by
        unfold Rd.text Rd.take at hh ⊢
        split
        · rfl
        · rename_i hc
          rw [if_neg hc] at hh
          cases hh
      dsimp only at e0
      rw [ht] at e0
      simp [textB, numB] at e0
  obtain ⟨_, ea⟩ := text_ok hb
  have hl := (text_len ⟨s, false⟩ 300).2.1 hb
  dsimp only at *
  refine ⟨hb, ?_, hl, l1, l2, l3⟩
  rw [e3, List.append_nil] at e2
  rw [e2] at e1
  rw [e1] at e0
  unfold ringRow
  rw [← e0]
  exact ea

theorem ringScan_succ (f : Nat) (s : Bs) (h : s.length < f) : ringScan (f + 1) s = ringScan f s := by
  induction f generalizing s with
  | zero => omega
  | succ f ih =>
    conv => lhs; rw [ringScan]
    conv => rhs; rw [ringScan]
    split
    · rename_i h1
      obtain ⟨_, _, h2, _⟩ := ringRead_ok h1
      rw [ih _ (by omega)]
    · rfl
theorem ringScan_step {s : Bs} (h : (ringRead ⟨s, false⟩).2.2.1 = true) : ringRows s = ((ringRead ⟨s, false⟩).1, (ringRead ⟨s, false⟩).2.1) :: ringRows (ringRead ⟨s, false⟩).2.2.2.s ∧ ringRest s = ringRest (ringRead ⟨s, false⟩).2.2.2.s := by
  obtain ⟨_, _, h2, _⟩ := ringRead_ok h
  have h3 : ∀ f, (ringRead ⟨s, false⟩).2.2.2.s.length < f → ringScan f (ringRead ⟨s, false⟩).2.2.2.s = ringScan ((ringRead ⟨s, false⟩).2.2.2.s.length + 1) (ringRead ⟨s, false⟩).2.2.2.s := by
    intro f hf
    induction f with
    | zero => omega
    | succ f ih =>
      by_cases hh : (ringRead ⟨s, false⟩).2.2.2.s.length < f
      · rw [ringScan_succ _ _ hh, ih hh]
      · rw [show f = (ringRead ⟨s, false⟩).2.2.2.s.length by omega]
  unfold ringRows ringRest
  rw [ringScan, if_pos h, h3 _ h2]
  exact ⟨rfl, rfl⟩
theorem ringScan_stop {s : Bs} (h : (ringRead ⟨s, false⟩).2.2.1 = false) : ringRows s = [] ∧ ringRest s = s := by
  unfold ringRows ringRest
  rw [ringScan, if_neg (by simp [h])]
  exact ⟨rfl, rfl⟩
theorem ringPuts_snoc (l : List (Bs × RSt)) (x : Bs × RSt) : ringPuts (l ++ [x]) = (ringPuts l).put x.1 x.2 := by simp [ringPuts]
theorem ringPuts_length (l : List (Bs × RSt)) : (ringPuts l).length ≤ l.length := by
  have : ∀ (l : List (Bs × RSt)) (M : Mp RSt), (l.foldl (fun M p => M.put p.1 p.2) M).length ≤ M.length + l.length := by
    intro l
    induction l with
    | nil => intro M; simp
    | cons x l ih =>
      intro M
      have h1 := ih (M.put x.1 x.2)
      have h2 := Mp.length_put_le M x.1 x.2
      simp only [List.foldl_cons, List.length_cons]
      omega
  have := this l []
  simpa [ringPuts] using this

section
variable {w0 w : World} {F0 : List Nat} {L : List Res} {d : Nat}
set_option maxRecDepth 100000 in
set_option maxHeartbeats 400000 in
theorem ringOpen_nil (S : Sp w0 F0 w L) : Calls Try.prog 32 #[.pointer none] w fun e w2 => e = .returned (.tuple #[.pointer none, .int .i64 1]) ∧ Sp w0 F0 w2 L := by
  have HS := Lib.hid S
  clear S
  go_enter Try.func32, Try.ntmps32
  go_wp2
  go_ret2
  exact ⟨rfl, HS.out⟩

set_option maxRecDepth 100000 in
set_option maxHeartbeats 2000000 in
theorem ringOpenS (k : Nat) (D : Dk) (S : Sp w0 F0 w (diskR d D :: L)) (hD : D.Roomy k) (hk : k ≤ 400000000) :
    Calls Try.prog 32 #[.pointer (some ⟨d, 0, none⟩)] w fun e w2 => OpenPost w0 F0 L d (ringOpen D) e w2 := by
  have HO : Hid (ringOpen D = _) := Lib.hid (ringOpen.eq_1 D)
  have HF : Hid (ringFile D = (D.now.get ringB).getD []) := rfl
  have hl : (ringFile D).length ≤ k := hD.file ringB
  have HL : Hid ((ringFile D).length ≤ 400000000) := Nat.le_trans hl hk
  have HW : Hid (D.Small ∧ ∀ x : Bs, x.length ≤ 400000000 → (D.write ringB x).1.Small) := by
    refine ⟨hD.small (by omega), fun x hx => (hD.write ringB x).small (by omega)⟩
  have HS := Lib.hid S
  have hmm := @run_makeMap Try.prog
  clear S hD hk hl
  go_enter Try.func32, Try.ntmps32
  go_wp2_with fail
  refine (readS ringB HS.out (by decide)).mono ?_
  rw [← HF.out]
  rintro e w2 ⟨rfl, rfl⟩
  generalize ringFile D = s at *
  obtain ⟨ec, hec⟩ : ∃ c : Int, (if D.now.has ringB then 0 else 10) = c := ⟨_, rfl⟩
  rw [hec]
  have HEC : Hid ((D.now.has ringB = true ∧ ec = 0) ∨ (D.now.has ringB = false ∧ ec = 10)) := by
    cases hh : D.now.has ringB <;> simp [hh] at hec <;> simp [hec.symm, Hid]
  clear hec
  go_wp2_with fail
  have S1 := (HS.out.mapMade 9 RSt.agg).box #[.pointer (some ⟨d, 0, none⟩), .map (some w.heap.size)] 120
  simp only [World.size_alloc] at S1
  refine (fromS S1 s).mono ?_
  rintro e w3 ⟨i, rfl, S3⟩
  clear S1 HS hmm
  generalize w.heap.size + 1 = p at *
  generalize w.heap.size = m at *
  have HS3 := Lib.hid S3
  clear S3
  go_wp2_with fail
  go_loopw [8] (fun v wr => ∃ (dn : List (Bs × RSt)) (r : Bs), ringRows s = dn ++ ringRows r ∧ ringRest s = ringRest r ∧ v = .int .i64 ((s.length : Int) - r.length) ∧ r.length + dn.length ≤ s.length ∧ Sp w0 F0 wr (rdR 89 i ⟨r, false⟩ :: boxR p #[.pointer (some ⟨d, 0, none⟩), .map (some m)] 120 :: mapR 9 RSt.agg m (ringPuts dn) :: diskR d D :: L)) (fun v _ => s.length - (intOf v).toNat)
  case atStart => exact ⟨[], s, rfl, rfl, by simp, by simp, HS3.out⟩
  case round =>
    obtain ⟨dn, r, h1, h2, rfl, h4, S4⟩ := hrel
    have H1 := Lib.hid h1
    have H2 := Lib.hid h2
    have H4 := Lib.hid h4
    have HS4 := Lib.hid S4
    clear h1 h2 h4 S4 HS3
    go_wp2_with fail
    refine (ringReadS i ⟨r, false⟩ HS4.out (by have := HL.out; have := H4.out; dsimp only; omega)).mono ?_
    have HQ := Lib.hid (@ringRead_ok r)
    have HQ1 := Lib.hid (@ringScan_step r)
    have HQ2 := Lib.hid (@ringScan_stop r)
    generalize ringRead ⟨r, false⟩ = q at *
    obtain ⟨x, ⟨a, b⟩, ok, r2⟩ := q
    dsimp only at *
    rintro e w4 ⟨rfl, S5⟩
    clear HS4
    cases ok with
    | false =>
      obtain ⟨g1, g2⟩ := HQ2.out rfl
      have HR1 : Hid (ringRows s = dn) := by rw [H1.out, g1]; simp [Hid]
      have HR2 : Hid (ringRest s = r) := by rw [H2.out, g2]; trivial
      have HS5 := Lib.hid ((Sp.pick [_, _, _, _] [1, 2, 3] (by decide) (S5)).new (.cells #[.int .u64 a, .int .u64 b] 67))
      clear g1 g2 HQ HQ1 HQ2 H1 H2 S5
      rw [HR1.out, HR2.out] at HO
      have hr : (r.length : Int) ≤ s.length := by have := H4.out; omega
      have hs : (s.length : Int) ≤ 400000000 := by have := HL.out; omega
      have HC := Lib.hid (cut_head s (s.length - r.length))
      have HWL : Hid ((s.take (s.length - r.length)).length ≤ 400000000) := by have := HL.out; rw [List.length_take]; unfold Hid; omega
      go_wp2_with fail
      · have hr0 : r = [] := by
          have h : ((s.length : Int) - r.length == s.length) = true := by assumption
          simp only [beq_iff_eq] at h
          exact List.eq_nil_of_length_eq_zero (by omega)
        have he : ec = 0 := by assumption
        have hh : D.now.has ringB = true := by rcases HEC.out with h | h; exact h.1; omega
        go_ret2
        rw [HO.out, if_pos ⟨hh, hr0⟩]
        exact ⟨p, rfl, HS5.out.glue.exShut m⟩
      all_goals
        have hno : ¬ (D.now.has ringB = true ∧ r = []) := by
          rintro ⟨h1, h2⟩
          rcases HEC.out with h | h
          · have he := h.2
            subst he h2
            simp at *
          · rw [h1] at h
            cases h.1
        rw [if_neg hno] at HO
        clear hno
        rw [HC.out]
        refine (writeS ringB _ HS5.out.pull2 HW.out.1 (by decide) (by have := HWL.out; omega)).mono ?_
        have HW1 := Lib.hid (HW.out.2 _ HWL.out)
        generalize D.write ringB (s.take (s.length - r.length)) = A at *
        obtain ⟨D1, e1⟩ := A
        dsimp only at *
        rintro e w5 ⟨rfl, S6⟩
        have HS6 := Lib.hid S6
        clear S6 HS5
        go_wp2_with (go_at_call 53; refine (syncS HS6.out HW1.out).mono ?_; rintro e w6 ⟨rfl, S7⟩; have HS7 := Lib.hid S7; clear S7)
        all_goals
          go_ret2
          simp only [bne_iff_ne, ne_eq, bne_eq_false_iff_eq] at *
          rw [HO.out]
          first
            | (rw [if_pos (by assumption)]; exact ⟨rfl, (Sp.pick [_, _, _] [0] (by decide) (HS6.out))⟩)
            | (rw [if_neg (by simpa using ‹e1 = 0›), if_pos (by assumption)]; exact ⟨rfl, (Sp.pick [_, _, _] [0] (by decide) (HS7.out))⟩)
            | (rw [if_neg (by simpa using ‹e1 = 0›), if_neg (by simpa using ‹D1.sync.2 = 0›)]; exact ⟨p, rfl, ((Sp.pick [_, _, _] [1, 2, 0] (by decide) (HS7.out))).glue.exShut m⟩)
    | true =>
      obtain ⟨g1, g2, g3, g4, g5, g6⟩ := HQ.out rfl
      obtain ⟨g7, g8⟩ := HQ1.out rfl
      have S6 := S5.box #[.int .u64 a, .int .u64 b] 67
      have c6 := S6.cell
      have p6 := (Sp.pick [_, _, _] [2] (by decide) (S6)).cell
      obtain ⟨r2, bad⟩ := r2
      dsimp only at *
      subst g1
      have HM : Hid ((ringPuts dn).length < maxLen) := by have := ringPuts_length dn; have := H4.out; have := HL.out; unfold Hid maxLen; omega
      obtain ⟨w5, hrun, S7, _⟩ := ((Sp.pick [_, _, _, _, _] [3, 1, 2, 4] (by decide) (S6))).drew.mapPut (t := 118) keyedStr Try.underlying118 HM.out (keyStr x (by unfold maxLen; omega)) ⟨a, b⟩
      rw [← ringPuts_snoc dn (x, ⟨a, b⟩)] at S7
      have S7' := (Sp.pick [_, _, _, _] [1, 2, 0, 3] (by decide) (S7))
      have HS7 := Lib.hid S7'
      have h1 : ringRows s = (dn ++ [(x, ⟨a, b⟩)]) ++ ringRows r2 := by rw [H1.out, g7]; simp
      have h2 : ringRest s = ringRest r2 := by rw [H2.out, g8]
      have H1 := Lib.hid h1
      have H2 := Lib.hid h2
      have H4' : Hid (r2.length + (dn ++ [(x, (⟨a, b⟩ : RSt))]).length ≤ s.length) := by have := H4.out; simp only [List.length_append, List.length_cons, List.length_nil, Hid]; omega
      have hr2 : (r2.length : Int) ≤ s.length := by have := H4.out; omega
      have hs : (s.length : Int) ≤ 400000000 := by have := HL.out; omega
      have H3 : Hid (r2.length < r.length ∧ r.length ≤ s.length) := ⟨g3, by have := H4.out; omega⟩
      clear g2 g3 g4 g5 g6 g7 g8 HQ HQ1 HQ2 S5 S6 S7 S7' h1 h2
      go_wp2_with fail
      go_region
      all_goals
        clear c6 p6 hrun
        go_wp2_with (go_at_call 46; refine (rdLeftS HS7.out).mono ?_; rintro e w2 ⟨rfl, rfl⟩)
        go_roundw
        case rel => exact ⟨_, r2, H1.out, H2.out, rfl, H4'.out, HS7.out⟩
        case measure => have := H3.out; simp [intOf]; omega
end
end Go.Proofs.Ytpkolkgndhagiaa
