/- ledger: the rows of bytes (Rows). Conditions: the lengths fit. -/
import Derived.Test.YtpkolkgndhagiaaLed1
import Derived.Test.YtpkolkgndhagiaaLed2
import Derived.Test.YtpkolkgndhagiaaRow
namespace Go.Proofs.Ytpkolkgndhagiaa
open Go.RowKit Go.Maps

theorem readRow_nil : (readRow []).2 = false := by decide
/-- One turn of the rows: what was read, whether it is a row, and what is left. -/
def rowNext (r : Rd) : LRow × Bool × Rd := ((readRow (r.text 600).1).1, (readRow (r.text 600).1).2 && !(r.text 600).1.isEmpty, (r.text 600).2)
abbrev LRow.vals (x : LRow) : List Value := [.string ⟨x.key.toArray⟩, .int .u64 x.ceil]
def ledScan : Nat → Bs → List LRow × Bs
  | 0, s => ([], s)
  | f + 1, s => if (rowNext ⟨s, false⟩).2.1 then ((rowNext ⟨s, false⟩).1 :: (ledScan f (rowNext ⟨s, false⟩).2.2.s).1, (ledScan f (rowNext ⟨s, false⟩).2.2.s).2) else ([], s)
def ledRows (s : Bs) : List LRow := (ledScan (s.length + 1) s).1
def ledRest (s : Bs) : Bs := (ledScan (s.length + 1) s).2
def lrowOk (x : LRow) : Prop := x.key.length ≤ 300 ∧ x.ceil ≤ 1099511627776
theorem ldone_bad {r : Rd} (h : r.done = 0) : r.bad = false ∧ r.s = [] := by
  unfold Rd.done at h
  split at h
  · cases h
  · split at h
    · rename_i h1 h2
      exact ⟨by simpa using h1, by simpa using h2⟩
    · cases h
theorem rowNext_spec {s : Bs} (h : (rowNext ⟨s, false⟩).2.1 = true) :
    (rowNext ⟨s, false⟩).2.2.bad = false ∧ s = (rowNext ⟨s, false⟩).1.text ++ (rowNext ⟨s, false⟩).2.2.s ∧ (rowNext ⟨s, false⟩).2.2.s.length < s.length ∧ lrowOk (rowNext ⟨s, false⟩).1 := by
  unfold rowNext at h ⊢
  simp only [Bool.and_eq_true, Bool.not_eq_true'] at h ⊢
  obtain ⟨h1, h2⟩ := h
  have hb : (Rd.text ⟨s, false⟩ 600).2.bad = false := by
    cases hh : (Rd.text ⟨s, false⟩ 600).2.bad with
    | false => rfl
    | true =>
      exfalso
      have ht : (Rd.text ⟨s, false⟩ 600).1 = [] := by
        unfold Rd.text Rd.take at hh ⊢
        split
        · rfl
        · rename_i hc
          rw [if_neg hc] at hh
          cases hh
      rw [ht] at h2
      cases h2
  obtain ⟨_, ea⟩ := text_ok hb
  have hl := (text_len ⟨s, false⟩ 600).2.1 hb
  generalize (Rd.text ⟨s, false⟩ 600).1 = t at *
  unfold readRow at h1 ⊢
  simp only [decide_eq_true_eq] at h1 ⊢
  obtain ⟨b2, e2⟩ := ldone_bad h1
  obtain ⟨b1, e1⟩ := num_ok b2
  obtain ⟨b0, e0⟩ := text_ok b1
  have l1 := text_fst_le ⟨t, false⟩ 300
  have l2 := num_le (Rd.text ⟨t, false⟩ 300).2 1099511627776
  dsimp only at *
  refine ⟨hb, ?_, hl, l1, l2⟩
  rw [e2, List.append_nil] at e1
  rw [e1] at e0
  unfold LRow.text
  rw [← e0]
  exact ea
theorem ledScan_succ (f : Nat) (s : Bs) (h : s.length < f) : ledScan (f + 1) s = ledScan f s := by
  induction f generalizing s with
  | zero => omega
  | succ f ih =>
    conv => lhs; rw [ledScan]
    conv => rhs; rw [ledScan]
    split
    · rename_i h1
      obtain ⟨_, _, h2, _⟩ := rowNext_spec h1
      rw [ih _ (by omega)]
    · rfl
theorem ledScan_step {s : Bs} (h : (rowNext ⟨s, false⟩).2.1 = true) : ledRows s = (rowNext ⟨s, false⟩).1 :: ledRows (rowNext ⟨s, false⟩).2.2.s ∧ ledRest s = ledRest (rowNext ⟨s, false⟩).2.2.s := by
  obtain ⟨_, _, h2, _⟩ := rowNext_spec h
  have h3 : ∀ f, (rowNext ⟨s, false⟩).2.2.s.length < f → ledScan f (rowNext ⟨s, false⟩).2.2.s = ledScan ((rowNext ⟨s, false⟩).2.2.s.length + 1) (rowNext ⟨s, false⟩).2.2.s := by
    intro f hf
    induction f with
    | zero => omega
    | succ f ih =>
      by_cases hh : (rowNext ⟨s, false⟩).2.2.s.length < f
      · rw [ledScan_succ _ _ hh, ih hh]
      · rw [show f = (rowNext ⟨s, false⟩).2.2.s.length by omega]
  unfold ledRows ledRest
  rw [ledScan, if_pos h, h3 _ h2]
  exact ⟨rfl, rfl⟩
theorem ledScan_stop {s : Bs} (h : (rowNext ⟨s, false⟩).2.1 = false) : ledRows s = [] ∧ ledRest s = s := by
  unfold ledRows ledRest
  rw [ledScan, if_neg (by simp [h])]
  exact ⟨rfl, rfl⟩

section
variable {w0 w : World} {F0 : List Nat} {L : List Res}
theorem nonceS (n : Nat) (S : Sp w0 F0 w L) (hn : n < 18446744073709551616) : Calls Try.prog 16 #[.int .u64 n] w fun e w2 => e = .returned (.string ⟨(nonceB n).toArray⟩) ∧ Sp w0 F0 w2 L :=
  (nonce_any n w hn).mono fun _ _ ⟨he, hx⟩ => ⟨he, S.ext0 hx⟩
theorem rowTextS (x : LRow) (S : Sp w0 F0 w L) (hk : x.key.length ≤ 1000000) (hc : x.ceil < 18446744073709551616) : Calls Try.prog 80 #[.agg #[.string ⟨x.key.toArray⟩, .int .u64 x.ceil]] w fun e w2 => e = .returned (.string ⟨x.text.toArray⟩) ∧ Sp w0 F0 w2 L :=
  (rowText_any x w hk hc).mono fun _ _ ⟨he, hx⟩ => ⟨he, S.ext0 hx⟩
theorem ledReadS (s : Bs) (S : Sp w0 F0 w L) (hs : s.length ≤ 1000000000) : Calls Try.prog 45 #[.string ⟨s.toArray⟩] w fun e w2 => e = .returned (.tuple #[.agg #[.string ⟨(readRow s).1.key.toArray⟩, .int .u64 (readRow s).1.ceil], .bool (readRow s).2]) ∧ Sp w0 F0 w2 L :=
  (ledRead_any s w hs).mono fun _ _ ⟨he, hx⟩ => ⟨he, S.ext0 hx⟩

set_option maxRecDepth 100000 in
set_option maxHeartbeats 1000000 in
theorem ledNextS (ci b : Nat) (r : Rd) (S : Sp w0 F0 w (boxR ci #[.pointer (some ⟨b, 0, none⟩)] 83 :: rdR 89 b r :: L)) (hs : r.s.length ≤ 1000000000) :
    Calls Try.prog 43 #[.pointer (some ⟨ci, 0, none⟩)] w fun e w2 => e = .returned (.tuple #[.agg #[.string ⟨(rowNext r).1.key.toArray⟩, .int .u64 (rowNext r).1.ceil], .bool (rowNext r).2.1]) ∧ Sp w0 F0 w2 (boxR ci #[.pointer (some ⟨b, 0, none⟩)] 83 :: rdR 89 b (rowNext r).2.2 :: L) := by
  have HR : Hid (rowNext r = ((readRow (r.text 600).1).1, (readRow (r.text 600).1).2 && !(r.text 600).1.isEmpty, (r.text 600).2)) := rfl
  have HL := Lib.hid hs
  have HT := Lib.hid (text_len r 600).2.2
  have S0 := S.box #[.string ⟨#[]⟩, .int .u64 0] 33
  have hlt := S.boxlt
  have c0 := S.cell
  have HS0 := Lib.hid S0.pull2
  clear S S0 hs
  go_enter Try.func43, Try.ntmps43
  go_wp2_with fail
  refine (rdTextS 600 600 rfl HS0.out (by have := HL.out; omega) (by decide)).mono ?_
  generalize r.text 600 = tr at *
  obtain ⟨t, r1⟩ := tr
  dsimp only at *
  rintro e w1 ⟨rfl, S⟩
  have HS1 := Lib.hid S
  clear S HS0
  go_wp2_with fail
  refine (ledReadS t HS1.out (by have := HL.out; have := HT.out; omega)).mono ?_
  generalize readRow t = rr at *
  obtain ⟨⟨key, ceil⟩, ok⟩ := rr
  dsimp only at *
  rintro e w2 ⟨rfl, S⟩
  have c1 := S.pull1.cell
  have f1 := S.pull1.free
  have l1 := S.pull1.boxlt
  have SF := ((S.pull1.set (o := 0) (.string ⟨key.toArray⟩)).set (o := 1) (.int .u64 ceil)).new (.cells #[.string ⟨key.toArray⟩, .int .u64 ceil] 33)
  have HFIN : Hid (∀ bb : Bool, rowNext r = (⟨key, ceil⟩, bb, r1) → Sp w0 F0 (((w2.setCell ⟨w.heap.size, 0, none⟩ (.string ⟨key.toArray⟩)).setCell ⟨w.heap.size, 1, none⟩ (.int .u64 ceil)).alloc (.cells #[.string ⟨key.toArray⟩, .int .u64 ceil] 33)) (boxR ci #[.pointer (some ⟨b, 0, none⟩)] 83 :: rdR 89 b r1 :: L)) := fun bb _ => (Sp.pick [_, _, _] [2, 1] (by decide) (SF))
  have hc3 : ∀ o, (((w2.setCell ⟨w.heap.size, 0, none⟩ (.string ⟨key.toArray⟩)).setCell ⟨w.heap.size, 1, none⟩ (.int .u64 ceil)).alloc (.cells #[.string ⟨key.toArray⟩, .int .u64 ceil] 33)).cell? ⟨w.heap.size, o, none⟩ = #[.string ⟨key.toArray⟩, .int .u64 ceil][o]? := SF.cell
  have HC3 := Lib.hid hc3
  clear hc3 S SF HS1
  have hcase : (ok = true ∧ ∃ c t', t = c :: t') ∨ (ok = true ∧ t = []) ∨ ok = false := by
    cases ok
    · exact .inr (.inr rfl)
    · cases t with
      | nil => exact .inr (.inl ⟨rfl, rfl⟩)
      | cons c t' => exact .inl ⟨rfl, c, t', rfl⟩
  rcases hcase with ⟨rfl, c, t', rfl⟩ | ⟨rfl, rfl⟩ | rfl
  · have h1 : (ByteArray.mk (c :: t').toArray).toList.isEmpty = false := by rw [ByteArray.toList_eq]; rfl
    have h2 : (!(ByteArray.mk (c :: t').toArray).toList.isEmpty) = true := by rw [h1]; rfl
    go_wp2
    have c3 := HC3.out
    refine bodyPost_ret (v := .tuple #[.agg #[.string ⟨key.toArray⟩, .int .u64 ceil], .bool true]) ?_ rfl ⟨by rw [HR.out] <;> rfl, by rw [HR.out]; exact HFIN.out _ HR.out⟩
    simp [results, Try.results43, go_sem, c3]
  · go_wp2
    have c3 := HC3.out
    refine bodyPost_ret (v := .tuple #[.agg #[.string ⟨key.toArray⟩, .int .u64 ceil], .bool false]) ?_ rfl ⟨by rw [HR.out] <;> rfl, by rw [HR.out]; exact HFIN.out _ HR.out⟩
    simp [results, Try.results43, go_sem, c3]
  · go_wp2
    have c3 := HC3.out
    refine bodyPost_ret (v := .tuple #[.agg #[.string ⟨key.toArray⟩, .int .u64 ceil], .bool false]) ?_ rfl ⟨by rw [HR.out] <;> rfl, by rw [HR.out]; exact HFIN.out _ HR.out⟩
    simp [results, Try.results43, go_sem, c3]

theorem infoRow : (Try.prog.info? 33).map (fun i => (i.zero, i.size, i.bytes)) = some (some (.agg #[.string ⟨#[]⟩, .int .u64 0]), 2, 24) := by kernel_rfl
/-- A slice of rows of the program's own. -/
abbrev lrowsR (v : Value) (l : List LRow) : Res := rowR 33 2 v l.length (l.map LRow.vals).flatten

set_option maxRecDepth 100000 in
set_option maxHeartbeats 2000000 in
theorem ledRowsS (s : Bs) (S : Sp w0 F0 w L) (hs : s.length ≤ 1000000000) :
    Calls Try.prog 14 #[.string ⟨s.toArray⟩] w fun e w2 => ∃ v, e = .returned (.tuple #[v, .int .i64 ((s.length : Int) - (ledRest s).length)]) ∧ Sp w0 F0 w2 (lrowsR v (ledRows s) :: L) := by
  have HL := Lib.hid hs
  have hs' : (s.length : Int) ≤ 1000000000 := by omega
  have HS0 := Lib.hid S
  clear S hs
  go_enter Try.func14, Try.ntmps14
  go_wp2_with fail
  refine (fromS HS0.out s).mono ?_
  rintro e w1 ⟨b, rfl, S1⟩
  have S2 := (S1.box #[.pointer (some ⟨b, 0, none⟩)] 83).rowNil 33 2
  have HS2 := Lib.hid S2.pull2.pull2
  clear S1 S2 HS0
  go_wp2_with fail
  generalize w1.alloc (.cells #[.pointer (some ⟨b, 0, none⟩)] 83) = w2 at *
  generalize w1.heap.size = ci at *
  go_loopw [4, 6] (fun v at0 wr => ∃ (dn : List LRow) (r : Bs), ledRows s = dn ++ ledRows r ∧ ledRest s = ledRest r ∧ at0 = .int .i64 ((s.length : Int) - r.length) ∧ r.length + dn.length ≤ s.length ∧ Sp w0 F0 wr (boxR ci #[.pointer (some ⟨b, 0, none⟩)] 83 :: rdR 89 b ⟨r, false⟩ :: lrowsR v dn :: L)) (fun _ v _ => s.length - (intOf v).toNat)
  case atStart => exact ⟨[], s, rfl, rfl, by simp, by simp, HS2.out⟩
  case round =>
    obtain ⟨dn, r, h1, h2, rfl, h4, S3⟩ := hrel
    have H1 := Lib.hid h1
    have H2 := Lib.hid h2
    have H4 := Lib.hid h4
    have HS3 := Lib.hid S3
    clear h1 h2 h4 S3 HS2
    go_wp2_with fail
    refine (ledNextS ci b ⟨r, false⟩ HS3.out (by have := HL.out; have := H4.out; dsimp only; omega)).mono ?_
    have HQ := Lib.hid (@rowNext_spec r)
    have HQ1 := Lib.hid (@ledScan_step r)
    have HQ2 := Lib.hid (@ledScan_stop r)
    generalize rowNext ⟨r, false⟩ = q at *
    obtain ⟨⟨key, ceil⟩, ok, r2⟩ := q
    dsimp only at *
    rintro e w4 ⟨rfl, S⟩
    have S4 := (S.box #[.string ⟨key.toArray⟩, .int .u64 ceil] 33).box #[.string ⟨key.toArray⟩, .int .u64 ceil] 33
    simp only [World.size_alloc] at S4
    cases ok with
    | false =>
      obtain ⟨g1, g2⟩ := HQ2.out rfl
      have HR1 : Hid (ledRows s = dn) := by rw [H1.out, g1]; simp [Hid]
      have HR2 : Hid (ledRest s = r) := by rw [H2.out, g2]; trivial
      have HS5 := Lib.hid ((S.new (.cells #[.string ⟨key.toArray⟩, .int .u64 ceil] 33)))
      clear S S4 HS3 g1 g2 HQ HQ1 HQ2 H1 H2
      have hu : ∃ v0, v0 = u4 := ⟨_, rfl⟩
      go_wp2
      go_ret2
      refine ⟨u4, ?_, ?_⟩
      · rw [HR2.out]; rfl
      · rw [HR1.out]; exact (Sp.pick [_, _, _] [2] (by decide) (HS5.out))
    | true =>
      obtain ⟨g1, g2, g3, g4⟩ := HQ.out rfl
      obtain ⟨g7, g8⟩ := HQ1.out rfl
      obtain ⟨r2, bad⟩ := r2
      dsimp only at *
      subst g1
      obtain ⟨g, cap, w6, hrun, S6⟩ := Sp.appendOne (e := 33) (k := 2) 24 24 #[.string ⟨key.toArray⟩, .int .u64 ceil] _ 24 infoRow rfl Try.underlying24 (by decide) (by decide) rfl (by simp [Value.oneCell']) (by have := H4.out; have := HL.out; omega) ((Sp.pick [_, _, _, _, _] [0, 4, 1, 2, 3] (by decide) (S4)))
      have e1 : (dn.map LRow.vals).flatten ++ [.string ⟨key.toArray⟩, .int .u64 ceil] = ((dn ++ [(⟨key, ceil⟩ : LRow)]).map LRow.vals).flatten := by simp
      have hl1 : dn.length + 1 = (dn ++ [(⟨key, ceil⟩ : LRow)]).length := by simp
      have S7 : Sp w0 F0 w6 (boxR ci #[.pointer (some ⟨b, 0, none⟩)] 83 :: rdR 89 b ⟨r2, false⟩ :: lrowsR (.slice (some ⟨g, 0, none⟩) (dn.length + 1) cap) (dn ++ [⟨key, ceil⟩]) :: L) := by
        unfold lrowsR
        rw [← hl1, ← e1]
        exact (Sp.pick [_, _, _, _, _] [3, 4, 1] (by decide) (S6))
      have HS7 := Lib.hid S7
      have HRUN := Lib.hid hrun
      have c7 := S7.cell
      have h1 : ledRows s = (dn ++ [(⟨key, ceil⟩ : LRow)]) ++ ledRows r2 := by rw [H1.out, g7]; simp
      have h2 : ledRest s = ledRest r2 := by rw [H2.out, g8]
      have H1 := Lib.hid h1
      have H2 := Lib.hid h2
      have H4' : Hid (r2.length + (dn ++ [(⟨key, ceil⟩ : LRow)]).length ≤ s.length) := by have := H4.out; simp only [List.length_append, List.length_cons, List.length_nil, Hid]; omega
      have hr2 : (r2.length : Int) ≤ s.length := by have := H4.out; omega
      have H3 : Hid (r2.length < r.length ∧ r.length ≤ s.length) := ⟨g3, by have := H4.out; omega⟩
      clear g2 g3 g4 g7 g8 HQ HQ1 HQ2 S S4 S6 S7 h1 h2 hrun e1 hl1 HS3
      go_wp2_with (first | (at_builtin; refine wpList_append_run (by rfl) (by rfl) (by rfl) (by rfl) HRUN.out ?_) | (go_at_call 46; refine (rdLeftS HS7.out.pull1).mono ?_; rintro e w2 ⟨rfl, rfl⟩))
      go_roundw
      case rel => exact ⟨_, r2, H1.out, H2.out, rfl, H4'.out, HS7.out⟩
      case measure => have := H3.out; simp [intOf]; omega
end
end Go.Proofs.Ytpkolkgndhagiaa
