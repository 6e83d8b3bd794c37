/- server: what a session is in memory; words, lines, end, say, forget. Conditions: the lengths fit. server: lines, end, say, forget. Conditions: the lengths fit. server: forget, from, data, taken, to. Conditions: the lengths fit; what Go's variables hold. -/
import Derived.Test.YtapenolbbofjkaaGreatDoorLnR
import Derived.Test.YtapenolbbofjkaaGreatDoorPlW
/-! SvM -/
set_option linter.unusedSimpArgs false
set_option linter.unusedVariables false
set_option linter.unnecessarySimpa false
namespace Go.Proofs.YtapenolbbofjkaaGreatDoor
open Go.RowKit Go.Maps

def txRows (l : List Bs) : List (List Value) := l.map fun s => [.string ⟨s.toArray⟩]
def mbVals (m : Mb) : List Value := [.string ⟨m.1.toArray⟩, .string ⟨m.2.toArray⟩]
/-- An event, with the slices that its lines and its recipients lie at. -/
abbrev QEv := Ev × Value × Value
def QEv.vals (q : QEv) : List Value := [.int .i64 q.1.kind, .int .i64 q.1.code, q.2.1, .string ⟨q.1.text.toArray⟩, .string ⟨q.1.frm.1.toArray⟩, .string ⟨q.1.frm.2.toArray⟩, q.2.2, .string ⟨q.1.body.toArray⟩]
def QEv.in (K : List Rom) (q : QEv) : Prop := (q.1.lines = [] ∧ q.2.1 = .slice none 0 0 ∨ (⟨q.2.1, 1, txRows q.1.lines⟩ : Rom) ∈ K) ∧ (q.1.rcs = [] ∧ q.2.2 = .slice none 0 0 ∨ (⟨q.2.2, 2, q.1.rcs.map mbVals⟩ : Rom) ∈ K)
theorem QEv.in.more {K K2 : List Rom} {q : QEv} (h : q.in K) (hk : ∀ x ∈ K, x ∈ K2) : q.in K2 :=
  ⟨h.1.imp_right (hk _), h.2.imp_right (hk _)⟩
abbrev mbxR (v : Value) (l : List Mb) : Res := rowR 37 2 v l.length (l.map mbVals).flatten
/-- Where a session's parts lie. -/
structure SvV where
  vr : Value
  vb : Value
  vt : Value
  vl : Value
  vq : Value
  rb : Nat
  qs : List QEv
abbrev svCells (s : Sv) (X : SvV) : Array Value := #[.string ⟨s.c.host.toArray⟩, .int .i64 s.c.most, X.vr, X.vb, .pointer (some ⟨X.rb, 0, none⟩), .int .i64 s.phase, .string ⟨s.greet.toArray⟩, .bool s.t.opened, .string ⟨s.t.frm.1.toArray⟩, .string ⟨s.t.frm.2.toArray⟩, X.vt, X.vl, .int .i64 s.t.size, .bool s.t.long, .int .i64 s.errs, X.vq]
abbrev queR (v : Value) (qs : List QEv) : Res := rowO 39 8 v qs.length (qs.map QEv.vals).flatten
structure SvV.Ok (X : SvV) (s : Sv) (K : List Rom) : Prop where
  rules : (⟨X.vr, 3, s.c.rules.map Rl.vals⟩ : Rom) ∈ K
  boxes : (⟨X.vb, 2, s.c.boxes.map mbVals⟩ : Rom) ∈ K
  queue : X.qs.map (·.1) = s.queue
  evs : ∀ q ∈ X.qs, q.in K
/-- What a session's sizes are. -/
structure Sv.Fit (s : Sv) : Prop where
  host : s.c.host.length ≤ 1000
  most : s.c.most ≤ 15000
  queue : s.queue.length ≤ 100000
  errs : s.errs ≤ 100000
  rules : s.c.rules.length ≤ 1000
  each : ∀ r ∈ s.c.rules, r.Fit
  boxes : s.c.boxes.length ≤ 1000
abbrev svL (p : Nat) (s : Sv) (X : SvV) (K : List Rom) (L : List Res) : List Res :=
  boxR p (svCells s X) 79 :: lrdR X.rb s.came :: mbxR X.vt s.t.rcs :: textsR X.vl s.t.lines :: queR X.vq X.qs :: romR K :: L
def SvAt (w0 : World) (L : List Res) (p : Nat) (s : Sv) (K : List Rom) (w : World) : Prop := ∃ X : SvV, X.Ok s K ∧ Sp w0 [] w (svL p s X K L)
theorem infoEv : (Tryz.prog.info? 39).map (fun i => (i.zero, i.size, i.bytes)) = some (some (.agg #[.int .i64 0, .int .i64 0, .slice none 0 0, .string ⟨#[]⟩, .string ⟨#[]⟩, .string ⟨#[]⟩, .slice none 0 0, .string ⟨#[]⟩]), 8, 128) := by kernel_rfl
section
variable {w0 w : World} {L : List Res} {p : Nat} {s : Sv} {K : List Rom} {v : Value}
theorem SvV.Ok.more {X : SvV} {K2 : List Rom} (h : X.Ok s K) (hk : ∀ x ∈ K, x ∈ K2) : X.Ok s K2 :=
  ⟨hk _ h.rules, hk _ h.boxes, h.queue, fun q hq => (h.evs q hq).more hk⟩
theorem svWords_len (h : s.Fit) (c : Int) : (svWords s.c.host c).length ≤ 2000 := by
  have := h.host
  unfold svWords
  by_cases h0 : c = 220
  · rw [if_pos h0, List.length_append]
    unfold ready
    simp only [List.length_cons, List.length_nil]
    omega
  · rw [if_neg h0]
    by_cases h1 : c = 221
    · rw [if_pos h1]; decide
    rw [if_neg h1]
    repeat (first | (split; · decide) | decide)
/-- One event more, lying in the box b. -/
theorem Sp.appendEv {b : Nat} {qs : List QEv} (ty : TypeId) (q : QEv) (hn : qs.length ≤ 1000000) (h1 : q.2.1.oneCell' = true) (h2 : q.2.2.oneCell' = true) (S : Sp w0 [] w (boxR b q.vals.toArray 39 :: queR v qs :: L)) :
    ∃ g off cap w2, (Builtin.append_ #[33, 33] ty #[v, .slice (some ⟨b, 0, none⟩) 1 1]).run Tryz.prog w = .ok (.slice (some ⟨g, off, none⟩) (qs.length + 1) cap) w2 ∧ Sp w0 [] w2 (queR (.slice (some ⟨g, off, none⟩) (qs.length + 1) cap) (qs ++ [q]) :: L) := by
  obtain ⟨g, off, cap, w2, h1, S2⟩ := Sp.appendO 33 ty q.vals.toArray _ 128 infoEv rfl Tryz.underlying33 (by decide) (by decide) rfl (by
    intro u hu
    simp only [QEv.vals, List.mem_cons, List.not_mem_nil, or_false] at hu
    rcases hu with rfl | rfl | rfl | rfl | rfl | rfl | rfl | rfl <;> first | rfl | exact h1 | exact h2) (by omega) S
  refine ⟨g, off, cap, w2, h1, ?_⟩
  have e1 : ((qs ++ [q]).map QEv.vals).flatten = (qs.map QEv.vals).flatten ++ q.vals := by simp
  have e2 : (qs ++ [q]).length = qs.length + 1 := by simp
  unfold queR
  rw [e1, e2]
  exact S2.drop
set_option maxRecDepth 100000 in
set_option maxHeartbeats 4000000 in
theorem svWordsS (c : Int) (hf : s.Fit) {X : SvV} (S : Sp w0 [] w (svL p s X K L)) : Calls Tryz.prog 66 #[.pointer (some ⟨p, 0, none⟩), .int .i64 c] w fun e w2 => e = .returned (.string ⟨(svWords s.c.host c).toArray⟩) ∧ w = w2 := by
  have c0 := S.cell
  have hadd := add_str s.c.host ready (by have := hf.host; unfold maxLen ready; simp; omega)
  have HV : Hid (∀ x, svWords s.c.host c = x → svWords s.c.host c = x) := fun _ h => h
  unfold ready at hadd
  clear S hf
  go_enter Tryz.func66, Tryz.ntmps66
  go_wp2
  all_goals
    go_ret
    refine ⟨?_, rfl⟩
    unfold svWords ready
    simp only [beq_iff_eq, bne_iff_ne] at *
    first | rfl | simp_all
end
end Go.Proofs.YtapenolbbofjkaaGreatDoor

/-! SvW -/
namespace Go.Proofs.YtapenolbbofjkaaGreatDoor
open Go.RowKit Go.Maps

section
variable {w0 w : World} {L : List Res} {p : Nat} {s : Sv} {K : List Rom} {v : Value}
/-- An event is put behind the others: what is laid, what append does, what is there then. -/
theorem Sp.putEv {X : SvV} (hX : X.Ok s K) (hf : s.Fit) (ty : TypeId) (q : QEv) (hq : q.in K) (h1 : q.2.1.oneCell' = true) (h2 : q.2.2.oneCell' = true) (S : Sp w0 [] w (svL p s X K L)) :
    ∃ g off m cap w2, (Builtin.append_ #[33, 33] ty #[X.vq, .slice (some ⟨w.heap.size, 0, none⟩) 1 1]).run Tryz.prog (w.alloc (.cells q.vals.toArray 39)) = .ok (.slice (some ⟨g, off, none⟩) m cap) w2 ∧
      (∀ o, w2.cell? ⟨p, o, none⟩ = (svCells s X)[o]?) ∧ (∀ o, w2.frozen? ⟨p, o, none⟩ = false) ∧ SvAt w0 L p (s.put q.1) K (w2.setCell ⟨p, 15, none⟩ (.slice (some ⟨g, off, none⟩) m cap)) := by
  have hl : X.qs.length = s.queue.length := by rw [← hX.queue, List.length_map]
  obtain ⟨g, off, cap, w2, hr, S2⟩ := Sp.appendEv ty q (by have := hf.queue; omega) h1 h2 ((Sp.pick [_, _, _, _, _, _, _] [0, 5, 1, 2, 3, 4, 6] (by decide) ((S.box q.vals.toArray 39))))
  have S3 := S2.pull1
  refine ⟨g, off, _, cap, w2, hr, S3.cell, S3.free, { X with vq := .slice (some ⟨g, off, none⟩) (X.qs.length + 1) cap, qs := X.qs ++ [q] }, ⟨hX.rules, hX.boxes, ?_, ?_⟩, ?_⟩
  · rw [List.map_append, hX.queue]
    rfl
  · intro q2 hq2
    rcases List.mem_append.1 hq2 with h | h
    · exact hX.evs q2 h
    · rw [List.mem_singleton.1 h]
      exact hq
  · exact (Sp.pick [_, _, _, _, _, _] [0, 2, 3, 4, 1, 5] (by decide) ((S3.set (o := 15) (.slice (some ⟨g, off, none⟩) (X.qs.length + 1) cap))))
set_option maxRecDepth 100000 in
set_option maxHeartbeats 4000000 in
theorem svLinesS (code : Int) (l : List Bs) (a : Option Addr) (n cap : Nat) (hv : (⟨.slice a n cap, 1, txRows l⟩ : Rom) ∈ K) (hf : s.Fit) (A : SvAt w0 L p s K w) : Calls Tryz.prog 65 #[.pointer (some ⟨p, 0, none⟩), .int .i64 code, .slice a n cap] w fun e w2 => e = .returned (.tuple #[]) ∧ SvAt w0 L p (s.put (evSay code l)) K w2 := by
  obtain ⟨X, hX, S⟩ := A
  obtain ⟨g, off, m, c, w2, hrun, c2, f2, A2⟩ := S.putEv hX hf 33 (evSay code l, .slice a n cap, .slice none 0 0) ⟨.inr hv, .inl ⟨rfl, rfl⟩⟩ rfl rfl
  have c0 := S.cell
  have l0 := S.boxlt
  have HA := Lib.hid A2
  have HRUN : Hid ((Builtin.append_ #[33, 33] 33 #[X.vq, .slice (some ⟨w.heap.size, 0, none⟩) 1 1]).run Tryz.prog (w.alloc (.cells #[.int .i64 0, .int .i64 code, .slice a n cap, .string ⟨#[]⟩, .string ⟨#[]⟩, .string ⟨#[]⟩, .slice none 0 0, .string ⟨#[]⟩] 39)) = .ok (.slice (some ⟨g, off, none⟩) m c) w2) := hrun
  clear S hX hf hv A2 hrun
  go_enter Tryz.func65, Tryz.ntmps65
  go_wp2_with (at_builtin; refine wpList_append_run (by rfl) (by rfl) (by rfl) (by rfl) HRUN.out ?_)
  go_end0
  exact ⟨rfl, HA.out⟩
theorem txRows_len (l : List Bs) : ∀ x ∈ txRows l, x.length = 1 := fun x hx => by
  obtain ⟨r, _, rfl⟩ := List.mem_map.1 hx
  rfl
theorem txRows_flat (l : List Bs) : (txRows l).flatten = l.map fun s => Value.string ⟨s.toArray⟩ := by
  induction l with
  | nil => rfl
  | cons x l ih => unfold txRows at *; rw [List.map_cons, List.flatten_cons, ih]; rfl
/-- Texts that are laid at once, and only read from now on. -/
theorem SvAt.texts (A : SvAt w0 L p s K w) (l : List Bs) (hl : l.length ≤ 1000) : SvAt w0 L p s (⟨.slice (some ⟨w.heap.size, 0, none⟩) l.length l.length, 1, txRows l⟩ :: K) (w.alloc (.cells (l.map fun s => Value.string ⟨s.toArray⟩).toArray 9)) := by
  obtain ⟨X, hX, S⟩ := A
  have S1 := S.rowLaid 9 1 l.length (l.map fun s => Value.string ⟨s.toArray⟩) (by simp) (by unfold maxLen; omega)
  have e1 : (txRows l).length = l.length := by simp [txRows]
  rw [← txRows_flat, ← e1] at S1
  have S2 := ((Sp.pick [_, _, _, _, _, _, _] [0, 6, 1, 2, 3, 4, 5] (by decide) (S1))).romMore (txRows_len l)
  rw [e1, txRows_flat] at S2
  exact ⟨X, hX.more fun x hx => by simp [hx], (Sp.pick [_, _, _, _, _, _] [1, 2, 3, 4, 5, 0] (by decide) (S2))⟩
theorem SvAt.cells (A : SvAt w0 L p s K w) : ∃ vr vb vt vl vq rb, ∀ o, w.cell? ⟨p, o, none⟩ = (svCells s ⟨vr, vb, vt, vl, vq, rb, []⟩)[o]? := by
  obtain ⟨X, hX, S⟩ := A
  exact ⟨X.vr, X.vb, X.vt, X.vl, X.vq, X.rb, S.cell⟩
set_option maxRecDepth 100000 in
set_option maxHeartbeats 4000000 in
theorem svEndS (code : Int) (hf : s.Fit) (hq : s.queue.length ≤ 10000) (A : SvAt w0 L p s K w) : Calls Tryz.prog 64 #[.pointer (some ⟨p, 0, none⟩), .int .i64 code] w fun e w2 => e = .returned (.tuple #[]) ∧ ∃ K2, (∀ x ∈ K, x ∈ K2) ∧ SvAt w0 L p (s.finis code) K2 w2 := by
  have HW : Hid (Calls Tryz.prog 66 #[.pointer (some ⟨p, 0, none⟩), .int .i64 code] w fun e w2 => e = .returned (.string ⟨(svWords s.c.host code).toArray⟩) ∧ w = w2) := by
    obtain ⟨X, hX, S⟩ := A
    exact svWordsS code hf S
  have HF2 : Hid ((s.put (evSay code [svWords s.c.host code])).Fit) := ⟨hf.host, hf.most, by unfold Sv.put; simp; omega, hf.errs, hf.rules, hf.each, hf.boxes⟩
  have HA1 := Lib.hid (A.texts [svWords s.c.host code] (by simp))
  have HF := Lib.hid hf
  have HV : Hid (s.finis code = { (s.put (evSay code [svWords s.c.host code])).put evOver with phase := 3 }) := rfl
  generalize svWords s.c.host code = x at *
  clear A hf hq
  go_enter Tryz.func64, Tryz.ntmps64
  go_wp2_with fail
  refine HW.out.mono ?_
  rintro e w1 ⟨rfl, rfl⟩
  go_wp2_with fail
  refine (svLinesS code [x] _ 1 1 (by simp) HF.out HA1.out).mono ?_
  rintro e w3 ⟨rfl, A3⟩
  have HA3 := Lib.hid A3
  obtain ⟨X, hX, S⟩ := A3
  have c3 := S.cell
  have l3 := S.boxlt
  obtain ⟨g, off, m, c, w4, hrun, c4, f4, A4⟩ := S.putEv hX HF2.out 33 (evOver, .slice none 0 0, .slice none 0 0) ⟨.inl ⟨rfl, rfl⟩, .inl ⟨rfl, rfl⟩⟩ rfl rfl
  have HRUN : Hid ((Builtin.append_ #[33, 33] 33 #[X.vq, .slice (some ⟨w3.heap.size, 0, none⟩) 1 1]).run Tryz.prog (w3.alloc (.cells #[.int .i64 2, .int .i64 0, .slice none 0 0, .string ⟨#[]⟩, .string ⟨#[]⟩, .string ⟨#[]⟩, .slice none 0 0, .string ⟨#[]⟩] 39)) = .ok (.slice (some ⟨g, off, none⟩) m c) w4) := hrun
  obtain ⟨Y, hY, S5⟩ := A4
  have A6 : SvAt w0 L p { (s.put (evSay code [x])).put evOver with phase := 3 } _ _ := ⟨Y, ⟨hY.rules, hY.boxes, hY.queue, hY.evs⟩, S5.set (o := 5) (.int .i64 3)⟩
  have HA6 := Lib.hid A6
  clear S hX hrun hY S5 HW A6
  go_wp2_with (at_builtin; refine wpList_append_run (by rfl) (by rfl) (by rfl) (by rfl) HRUN.out ?_)
  go_end0
  exact ⟨rfl, _, fun y hy => List.mem_cons_of_mem _ hy, by rw [HV.out]; exact HA6.out⟩
theorem SvAt.cell (A : SvAt w0 L p s K w) : ∃ X : SvV, X.Ok s K ∧ (∀ o, w.cell? ⟨p, o, none⟩ = (svCells s X)[o]?) ∧ (∀ o, w.frozen? ⟨p, o, none⟩ = false) ∧ p < w.heap.size := by
  obtain ⟨X, hX, S⟩ := A
  exact ⟨X, hX, S.cell, S.free, S.boxlt⟩
theorem SvAt.errs (A : SvAt w0 L p s K w) (n : Nat) : SvAt w0 L p { s with errs := n } K (w.setCell ⟨p, 14, none⟩ (.int .i64 n)) := by
  obtain ⟨X, hX, S⟩ := A
  exact ⟨X, ⟨hX.rules, hX.boxes, hX.queue, hX.evs⟩, S.set (o := 14) (.int .i64 n)⟩
theorem svWordsA (c : Int) (hf : s.Fit) (A : SvAt w0 L p s K w) : Calls Tryz.prog 66 #[.pointer (some ⟨p, 0, none⟩), .int .i64 c] w fun e w2 => e = .returned (.string ⟨(svWords s.c.host c).toArray⟩) ∧ w = w2 := by
  obtain ⟨X, hX, S⟩ := A
  exact svWordsS c hf S
/-- say, behind the count of errors. -/
def Sv.saying (s : Sv) (code : Int) : Sv := if 10 ≤ s.errs ∨ code = 221 then s.finis (if code = 221 then 221 else 421) else s.put (evSay code [svWords s.c.host code])
theorem say_saying (s : Sv) (code : Int) : s.say code = Sv.saying { s with errs := if 500 ≤ code then s.errs + 1 else s.errs } code := rfl
set_option maxRecDepth 100000 in
set_option maxHeartbeats 4000000 in
theorem svSayS (code : Int) (hf : s.Fit) (hq : s.queue.length ≤ 10000) (he : s.errs ≤ 10000) (A : SvAt w0 L p s K w) : Calls Tryz.prog 37 #[.pointer (some ⟨p, 0, none⟩), .int .i64 code] w fun e w2 => e = .returned (.tuple #[]) ∧ ∃ K2, (∀ x ∈ K, x ∈ K2) ∧ SvAt w0 L p (s.say code) K2 w2 := by
  obtain ⟨n, hn⟩ : ∃ n, n = if 500 ≤ code then s.errs + 1 else s.errs := ⟨_, rfl⟩
  have hnb : n ≤ 10001 := by rw [hn]; split <;> omega
  have HV : Hid (s.say code = Sv.saying { s with errs := n } code) := by unfold Hid; rw [say_saying, hn]
  have HSV : Hid (∀ t : Sv, Sv.saying t code = if 10 ≤ t.errs ∨ code = 221 then t.finis (if code = 221 then 221 else 421) else t.put (evSay code [svWords t.c.host code])) := fun t => rfl
  obtain ⟨t, ht⟩ : ∃ t : Sv, t = { s with errs := n } := ⟨_, rfl⟩
  have htf : t.Fit := by rw [ht]; exact ⟨hf.host, hf.most, hf.queue, by show n ≤ 100000; omega, hf.rules, hf.each, hf.boxes⟩
  have htq : t.queue.length ≤ 10000 := by rw [ht]; exact hq
  have hte : t.errs = n := by rw [ht]
  have HEN := Lib.hid (fun (c : Int) (w' : World) (A' : SvAt w0 L p t K w') => svEndS c htf htq A')
  have HWD := Lib.hid (fun (w' : World) (A' : SvAt w0 L p t K w') => svWordsA code htf A')
  have HLN := Lib.hid (fun (K' : List Rom) (w' : World) (l : List Bs) (a : Option Addr) (m cap : Nat) (hv : (⟨.slice a m cap, 1, txRows l⟩ : Rom) ∈ K') (A' : SvAt w0 L p t K' w') => svLinesS code l a m cap hv htf A')
  rw [← ht] at HV
  obtain ⟨X, hX, c0, f0, l0⟩ := A.cell
  by_cases h5 : 500 ≤ code
  · have h5' : (500 : Int) ≤ code := h5
    have hn1 : n = s.errs + 1 := by rw [hn, if_pos h5]
    have hei : (s.errs : Int) ≤ 10000 := by omega
    have hw : IntKind.i64.wrap ((s.errs : Int) + 1) = (n : Int) := by rw [IntWalk.i64_in _ (by omega)]; omega
    have hw2 : (s.errs : Int) + 1 = (n : Int) := by omega
    have HA1 : Hid (SvAt w0 L p t K (w.setCell ⟨p, 14, none⟩ (.int .i64 n))) := by unfold Hid; rw [ht]; exact A.errs n
    clear A hX htf htq hf hq hn hn1 h5 ht
    have h2 : ¬ code = 221 := by omega
    go_enter Tryz.func37, Tryz.ntmps37
    by_cases h10 : 10 ≤ n
    · have h10' : (10 : Int) ≤ n := by omega
      have h2' : (code == 221) = false := by simpa using h2
      have h2'' : (code != 221) = true := by simpa using h2
      have HW : Hid (s.say code = t.finis 421) := by unfold Hid; rw [HV.out, HSV.out, if_pos (.inl (by rw [hte]; exact h10)), if_neg h2]
      go_wp2_with fail
      refine (HEN.out 421 _ HA1.out).mono ?_
      rintro e w3 ⟨rfl, K2, hk, A3⟩
      have HA3 := Lib.hid A3
      have HK := Lib.hid hk
      clear A3 hk
      go_wp2
      go_end0
      exact ⟨rfl, K2, HK.out, by rw [HW.out]; exact HA3.out⟩
    · have h10' : (n : Int) < 10 := by omega
      have h2' : (code == 221) = false := by simpa using h2
      have HW : Hid (s.say code = t.put (evSay code [svWords t.c.host code])) := by unfold Hid; rw [HV.out, HSV.out, if_neg (by rw [hte]; omega)]
      go_wp2_with fail
      refine (HWD.out _ HA1.out).mono ?_
      rintro e w3 ⟨rfl, rfl⟩
      have HA2 := Lib.hid (HA1.out.texts [svWords t.c.host code] (by simp))
      generalize svWords t.c.host code = x at *
      go_wp2_with fail
      refine (HLN.out _ _ [x] _ 1 1 (by simp) HA2.out).mono ?_
      rintro e w4 ⟨rfl, A4⟩
      have HA4 := Lib.hid A4
      clear A4
      go_wp2
      go_end0
      exact ⟨rfl, _, fun y hy => List.mem_cons_of_mem _ hy, by rw [HW.out]; exact HA4.out⟩
  · have h5' : code < 500 := by omega
    have hn1 : n = s.errs := by rw [hn, if_neg h5]
    have hst : t = s := by rw [ht, hn1]
    subst hst
    have HA1 := Lib.hid A
    clear A hX htf htq hf hq hn h5 ht
    subst hn1
    go_enter Tryz.func37, Tryz.ntmps37
    by_cases h2 : code = 221
    · subst h2
      have HW : Hid (t.say 221 = t.finis 221) := by unfold Hid; rw [HV.out, HSV.out, if_pos (.inr rfl), if_pos rfl]
      by_cases h10 : 10 ≤ t.errs
      · have h10' : (10 : Int) ≤ t.errs := by omega
        go_wp2_with fail
        refine (HEN.out 221 _ HA1.out).mono ?_
        rintro e w3 ⟨rfl, K2, hk, A3⟩
        have HA3 := Lib.hid A3
        have HK := Lib.hid hk
        clear A3 hk
        go_wp2
        go_end0
        exact ⟨rfl, K2, HK.out, by rw [HW.out]; exact HA3.out⟩
      · have h10' : (t.errs : Int) < 10 := by omega
        go_wp2_with fail
        refine (HEN.out 221 _ HA1.out).mono ?_
        rintro e w3 ⟨rfl, K2, hk, A3⟩
        have HA3 := Lib.hid A3
        have HK := Lib.hid hk
        clear A3 hk
        go_wp2
        go_end0
        exact ⟨rfl, K2, HK.out, by rw [HW.out]; exact HA3.out⟩
    by_cases h10 : 10 ≤ t.errs
    · have h10' : (10 : Int) ≤ t.errs := by omega
      have h2' : (code == 221) = false := by simpa using h2
      have h2'' : (code != 221) = true := by simpa using h2
      have HW : Hid (t.say code = t.finis 421) := by unfold Hid; rw [HV.out, HSV.out, if_pos (.inl (h10)), if_neg h2]
      go_wp2_with fail
      refine (HEN.out 421 _ HA1.out).mono ?_
      rintro e w3 ⟨rfl, K2, hk, A3⟩
      have HA3 := Lib.hid A3
      have HK := Lib.hid hk
      clear A3 hk
      go_wp2
      go_end0
      exact ⟨rfl, K2, HK.out, by rw [HW.out]; exact HA3.out⟩
    · have h10' : (t.errs : Int) < 10 := by omega
      have h2' : (code == 221) = false := by simpa using h2
      have HW : Hid (t.say code = t.put (evSay code [svWords t.c.host code])) := by unfold Hid; rw [HV.out, HSV.out, if_neg (by omega)]
      go_wp2_with fail
      refine (HWD.out _ HA1.out).mono ?_
      rintro e w3 ⟨rfl, rfl⟩
      have HA2 := Lib.hid (HA1.out.texts [svWords t.c.host code] (by simp))
      generalize svWords t.c.host code = x at *
      go_wp2_with fail
      refine (HLN.out _ _ [x] _ 1 1 (by simp) HA2.out).mono ?_
      rintro e w4 ⟨rfl, A4⟩
      have HA4 := Lib.hid A4
      clear A4
      go_wp2
      go_end0
      exact ⟨rfl, _, fun y hy => List.mem_cons_of_mem _ hy, by rw [HW.out]; exact HA4.out⟩
end
end Go.Proofs.YtapenolbbofjkaaGreatDoor

/-! SvT -/
namespace Go.Proofs.YtapenolbbofjkaaGreatDoor
open Go.RowKit Go.Maps

section
variable {w0 w : World} {L : List Res} {p : Nat} {s : Sv} {K : List Rom} {v : Value}
set_option maxHeartbeats 4000000 in
/-- The transaction is another one, in which nobody and no lines are. -/
theorem SvAt.tr (A : SvAt w0 L p s K w) (o : Bool) (m : Mb) : SvAt w0 L p { s with t := ⟨o, m, [], [], 0, false⟩ } K (((((((w.setCell ⟨p, 7, none⟩ (.bool o)).setCell ⟨p, 8, none⟩ (.string ⟨m.1.toArray⟩)).setCell ⟨p, 9, none⟩ (.string ⟨m.2.toArray⟩)).setCell ⟨p, 10, none⟩ (.slice none 0 0)).setCell ⟨p, 11, none⟩ (.slice none 0 0)).setCell ⟨p, 12, none⟩ (.int .i64 0)).setCell ⟨p, 13, none⟩ (.bool false)) := by
  obtain ⟨X, hX, S⟩ := A
  have S2 := ((((((S.set (o := 7) (.bool o)).set (o := 8) (.string ⟨m.1.toArray⟩)).set (o := 9) (.string ⟨m.2.toArray⟩)).set (o := 10) (.slice none 0 0)).set (o := 11) (.slice none 0 0)).set (o := 12) (.int .i64 0)).set (o := 13) (.bool false)
  generalize ((((((w.setCell ⟨p, 7, none⟩ (.bool o)).setCell ⟨p, 8, none⟩ (.string ⟨m.1.toArray⟩)).setCell ⟨p, 9, none⟩ (.string ⟨m.2.toArray⟩)).setCell ⟨p, 10, none⟩ (.slice none 0 0)).setCell ⟨p, 11, none⟩ (.slice none 0 0)).setCell ⟨p, 12, none⟩ (.int .i64 0)).setCell ⟨p, 13, none⟩ (.bool false) = w2 at *
  have S4 : Sp w0 [] w2 (boxR p (svCells { s with t := ⟨o, m, [], [], 0, false⟩ } { X with vt := .slice none 0 0, vl := .slice none 0 0 }) 79 :: lrdR X.rb s.came :: queR X.vq X.qs :: romR K :: L) := (Sp.pick [_, _, _, _, _, _] [0, 1, 4, 5] (by decide) (S2))
  have S5 := (S4.rowNil 37 2).textsNil
  refine ⟨{ X with vt := .slice none 0 0, vl := .slice none 0 0 }, ⟨hX.rules, hX.boxes, hX.queue, hX.evs⟩, ?_⟩
  exact (Sp.pick [_, _, _, _, _, _] [2, 3, 1, 0, 4, 5] (by decide) (S5))
set_option maxRecDepth 100000 in
set_option maxHeartbeats 2000000 in
theorem svForgetS (A : SvAt w0 L p s K w) : Calls Tryz.prog 40 #[.pointer (some ⟨p, 0, none⟩)] w fun e w2 => e = .returned (.tuple #[]) ∧ SvAt w0 L p s.forget K w2 := by
  obtain ⟨X, hX, c0, f0, l0⟩ := A.cell
  have HA := Lib.hid (A.tr false ([], []))
  clear A hX
  go_enter Tryz.func40, Tryz.ntmps40
  go_wp2
  go_end0
  exact ⟨rfl, HA.out⟩
set_option maxRecDepth 100000 in
set_option maxHeartbeats 4000000 in
theorem svDataS (A : SvAt w0 L p s K w) (hn : s.t.rcs.length ≤ 1000) : Calls Tryz.prog 96 #[.pointer (some ⟨p, 0, none⟩)] w fun e w2 => e = .returned (.int .i64 s.data.1) ∧ SvAt w0 L p s.data.2 K w2 := by
  have HV : Hid (s.data = if s.t.opened = false ∨ s.t.rcs = [] then (503, s) else (354, { s with phase := 1 })) := rfl
  have HA0 := Lib.hid A
  obtain ⟨X, hX, S⟩ := A
  have HA1 : Hid (SvAt w0 L p { s with phase := 1 } K (w.setCell ⟨p, 2 + 3, none⟩ (.int .i64 1))) := ⟨X, ⟨hX.rules, hX.boxes, hX.queue, hX.evs⟩, S.set (o := 5) (.int .i64 1)⟩
  obtain ⟨va, vc, hvt⟩ : ∃ a c, X.vt = .slice a s.t.rcs.length c := by
    rcases ((Sp.pick [_, _, _] [2] (by decide) (S))).rowForm with ⟨h1, h2⟩ | ⟨g, cap, h1⟩
    · exact ⟨none, 0, by rw [h1, h2]⟩
    · exact ⟨_, cap, h1⟩
  have c0 := S.cell
  have f0 := S.free
  unfold svCells at c0
  rw [hvt] at c0
  have hnl : (s.t.rcs.length : Int) ≤ 1000 := by omega
  cases ho : s.t.opened with
  | false =>
    have HW : Hid (s.data = (503, s)) := by unfold Hid; rw [HV.out, if_pos (.inl ho)]
    rw [ho] at c0
    clear S hX hn HV
    go_enter Tryz.func96, Tryz.ntmps96
    go_wp2
    go_ret
    rw [HW.out]
    exact ⟨rfl, HA0.out⟩
  | true =>
    rw [ho] at c0
    by_cases hz : s.t.rcs.length = 0
    · have HW : Hid (s.data = (503, s)) := by unfold Hid; rw [HV.out, if_pos (.inr (List.eq_nil_of_length_eq_zero hz))]
      have hz' : ((s.t.rcs.length : Int) == 0) = true := by simp [hz]
      clear S hX hn HV
      go_enter Tryz.func96, Tryz.ntmps96
      go_wp2
      go_ret
      rw [HW.out]
      exact ⟨rfl, HA0.out⟩
    · have HW : Hid (s.data = (354, { s with phase := 1 })) := by unfold Hid; rw [HV.out, if_neg (by rintro (h | h); (rw [ho] at h; cases h); (rw [h] at hz; simp at hz))]
      have hz' : ((s.t.rcs.length : Int) == 0) = false := by simp; exact fun h => hz (by rw [h]; rfl)
      clear S hX hn HV hz
      go_enter Tryz.func96, Tryz.ntmps96
      go_wp2
      go_ret
      rw [HW.out]
      exact ⟨rfl, HA1.out⟩
end
end Go.Proofs.YtapenolbbofjkaaGreatDoor
