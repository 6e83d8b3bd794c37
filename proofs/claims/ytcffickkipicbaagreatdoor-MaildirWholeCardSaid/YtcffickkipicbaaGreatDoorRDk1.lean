/- the document's disk: files in a sorted list, plainly. No condition. the document's disk: find, data. Conditions: the lengths fit. the document's disk: put, without. Conditions: the lengths fit. the document's disk: do. Conditions: the lengths fit, the files are sorted. the document's disk: rows appended to rows. Conditions: the lengths fit. the document's disk: May. Condition: the name is no longer than a text may be. -/
import Derived.Test.YtcffickkipicbaaGreatDoorHist
import Derived.Test.YtcffickkipicbaaGreatDoorArgs0
import Derived.Test.YtcffickkipicbaaGreatDoorRoO
import Derived.Test.YtcffickkipicbaaGreatDoorReg
import Derived.Test.YtcffickkipicbaaGreatDoorTx
import Derived.Sort.Walk0
import Derived.Test.YtcffickkipicbaaGreatDoorChainG
import Derived.Deep.Upon
import Derived.Test.YtcffickkipicbaaGreatDoorDiskM
/-! RDkP -/
set_option linter.unusedSimpArgs false
set_option linter.unusedVariables false
set_option linter.unnecessarySimpa false
namespace Go.Proofs.YtcffickkipicbaaGreatDoor
open Go.RowKit Go.Maps

def fsVals (x : Bs × Bs) : List Value := [.string ⟨x.1.toArray⟩, .string ⟨x.2.toArray⟩]
/-- A slice value that holds files, wherever it lies. -/
def FsAt (w : World) (v : Value) (l : Fs) : Prop := ∃ a cap, v = .slice a l.length cap ∧ RowsAt w a 2 (l.map fsVals)
abbrev fsR (T : TypeId) (v : Value) (l : Fs) : Res := rowR T 2 v l.length (l.map fsVals).flatten
section
variable {w0 w w2 : World} {L : List Res} {v : Value} {F0 : List Nat} {T : TypeId}
theorem FsAt.ext {l : Fs} (h : FsAt w v l) (hx : Ext [] w w2) : FsAt w2 v l := by
  obtain ⟨a, cap, h1, h2⟩ := h
  exact ⟨a, cap, h1, h2.ext hx⟩
theorem FsAt.form {l : Fs} (h : FsAt w v l) : ∃ a cap, v = .slice a l.length cap := by
  obtain ⟨a, cap, h1, _⟩ := h
  exact ⟨a, cap, h1⟩
theorem FsAt.at {a : Option Addr} {n cap : Nat} {l : Fs} (h : FsAt w (.slice a n cap) l) {i : Nat} (hi : i < l.length) : ∃ b off, a = some ⟨b, off, none⟩ ∧ w.cell? ⟨b, off + i * 2, none⟩ = some (.string ⟨l[i].1.toArray⟩) ∧ w.cell? ⟨b, off + i * 2 + 1, none⟩ = some (.string ⟨l[i].2.toArray⟩) := by
  obtain ⟨a2, cap2, h1, h2⟩ := h
  cases h1
  obtain ⟨b, off, rfl⟩ := h2.addr (i := i) (by simpa using hi)
  have hr : (l.map fsVals)[i]? = some (fsVals l[i]) := by rw [List.getElem?_map, List.getElem?_eq_getElem hi]; rfl
  exact ⟨b, off, rfl, h2.at i _ hr 0 _ rfl, h2.at i _ hr 1 _ rfl⟩
theorem fsVals_len {l : Fs} : ∀ x ∈ l.map fsVals, x.length = 2 := fun x hx => by
  obtain ⟨r, _, rfl⟩ := List.mem_map.1 hx
  rfl
theorem Sp.romFs {K : List Rom} {l : Fs} (S : Sp w0 F0 w (romR K :: L)) (h : (⟨v, 2, l.map fsVals⟩ : Rom) ∈ K) : FsAt w v l := by
  obtain ⟨F, a, cap, h1, _, _, h4⟩ := S.rom h
  refine ⟨a, cap, by simpa using h1, ?_⟩
  rcases h4 with h4 | ⟨b, off, h5, _, _, h6⟩
  · exact .inl h4
  · exact .inr ⟨b, off, h5, fun i r hr j u hu => h6 i r j u hr hu⟩
theorem Sp.fsMore {K : List Rom} {l : Fs} (S : Sp w0 F0 w (fsR T v l :: romR K :: L)) : Sp w0 F0 w (romR (⟨v, 2, l.map fsVals⟩ :: K) :: L) :=
  Sp.romMore (rows := l.map fsVals) (by simpa [fsR] using S) fsVals_len
theorem Sp.fsForm {l : Fs} (S : Sp w0 F0 w (fsR T v l :: L)) : ∃ a c, v = .slice a l.length c := by
  rcases S.rowForm with ⟨h1, h2⟩ | ⟨g, cap, h1⟩
  · exact ⟨none, 0, by rw [h1, h2]⟩
  · exact ⟨_, cap, h1⟩
theorem fsVals_snoc (l : Fs) (x : Bs × Bs) : ((l ++ [x]).map fsVals).flatten = (l.map fsVals).flatten ++ [.string ⟨x.1.toArray⟩, .string ⟨x.2.toArray⟩] := by simp [fsVals]
end

/-! ### finding -/
def findI (n : Bs) (F : Fs) : Int := match F.findIdx? (fun p => p.1 == n) with | some i => i | none => -1
theorem findI_at {F : Fs} {n : Bs} {k : Nat} (hk : k < F.length) (hn : n ∉ (F.take k).map (·.1)) (h : F[k].1 = n) : findI n F = k := by
  unfold findI
  have : F.findIdx? (fun p => p.1 == n) = some k := by
    rw [List.findIdx?_eq_some_iff_getElem]
    refine ⟨hk, by simp [h], fun j hj => ?_⟩
    have h1 : F[j] ∈ F.take k := by
      rw [List.mem_take_iff_getElem]
      exact ⟨j, by omega, rfl⟩
    have h2 : F[j].1 ≠ n := fun e => hn (List.mem_map.2 ⟨_, h1, e⟩)
    simpa using h2
  rw [this]
theorem findI_no {F : Fs} {n : Bs} (hn : n ∉ F.map (·.1)) : findI n F = -1 := by
  unfold findI
  have : F.findIdx? (fun p => p.1 == n) = none := by
    rw [List.findIdx?_eq_none_iff]
    intro x hx
    have : x.1 ≠ n := fun e => hn (List.mem_map.2 ⟨_, hx, e⟩)
    simpa using this
  rw [this]
theorem findI_cases (n : Bs) (F : Fs) : (findI n F = -1 ∧ F.has n = false ∧ F.get n = none) ∨ ∃ k, ∃ h : k < F.length, findI n F = k ∧ F.has n = true ∧ F.get n = some (F[k].2) := by
  unfold findI
  cases hf : F.findIdx? (fun p => p.1 == n) with
  | none =>
    rw [List.findIdx?_eq_none_iff] at hf
    refine .inl ⟨rfl, ?_, ?_⟩
    · unfold Fs.has
      rw [List.any_eq_false]
      intro x hx
      simpa using hf x hx
    · unfold Fs.get
      rw [List.find?_eq_none.2 (fun x hx => by simpa using hf x hx)]
      rfl
  | some k =>
    rw [List.findIdx?_eq_some_iff_getElem] at hf
    obtain ⟨hk, h1, h2⟩ := hf
    refine .inr ⟨k, hk, rfl, ?_, ?_⟩
    · unfold Fs.has
      rw [List.any_eq_true]
      exact ⟨F[k], List.getElem_mem hk, h1⟩
    · unfold Fs.get
      have : F.find? (fun p => p.1 == n) = some F[k] := by
        rw [List.find?_eq_some_iff_getElem]
        exact ⟨h1, k, hk, rfl, fun j hj => by simpa using h2 j hj⟩
      rw [this]
      rfl
/-! ### putting -/
def putStep (n d : Bs) (s : Fs × Bool) (x : Bs × Bs) : Fs × Bool :=
  let t : Fs × Bool := if s.2 = false ∧ bytesBefore x.1 n = false then (s.1 ++ [(n, d)], true) else s
  if x.1 = n then t else (t.1 ++ [x], t.2)
def putAll (n d : Bs) (F : Fs) : Fs × Bool := F.foldl (putStep n d) ([], false)
def putEnd (n d : Bs) (F : Fs) : Fs := if (putAll n d F).2 then (putAll n d F).1 else (putAll n d F).1 ++ [(n, d)]
theorem putAll_take (n d : Bs) (F : Fs) (k : Nat) (hk : k < F.length) : putAll n d (F.take (k + 1)) = putStep n d (putAll n d (F.take k)) F[k] := by
  unfold putAll
  rw [List.take_succ_eq_append_getElem hk, List.foldl_append]
  rfl
theorem ins_front {n d : Bs} : ∀ {F : Fs}, (∀ p ∈ F, bytesBefore n p.1 = true) → Fs.ins (n, d) F = (n, d) :: F
  | [], _ => rfl
  | y :: r, h => by
    unfold Fs.ins
    rw [if_pos (h y (by simp))]
theorem put_true (n d : Bs) : ∀ (F : Fs) (acc : Fs), F.foldl (putStep n d) (acc, true) = (acc ++ F.del n, true)
  | [], acc => by simp [Fs.del]
  | x :: r, acc => by
    rw [List.foldl_cons]
    by_cases hx : x.1 = n
    · have h1 : putStep n d (acc, true) x = (acc, true) := by simp [putStep, hx]
      rw [h1, put_true n d r]
      simp [Fs.del, hx]
    · have h1 : putStep n d (acc, true) x = (acc ++ [x], true) := by simp [putStep, hx]
      rw [h1, put_true n d r]
      simp [Fs.del, hx]
theorem put_false (n d : Bs) : ∀ (F : Fs) (acc : Fs), F.Sorted → (let s := F.foldl (putStep n d) (acc, false); if s.2 then s.1 else s.1 ++ [(n, d)]) = acc ++ F.put n d
  | [], acc, _ => by simp [Fs.put, Fs.del, Fs.ins]
  | x :: r, acc, hs => by
    unfold Fs.Sorted at hs
    rw [List.pairwise_cons] at hs
    rw [List.foldl_cons]
    by_cases hb : bytesBefore x.1 n = true
    · have hx : x.1 ≠ n := by
        rintro rfl
        rw [before_irr] at hb
        cases hb
      have h1 : putStep n d (acc, false) x = (acc ++ [x], false) := by simp [putStep, hx, hb]
      rw [h1, put_false n d r _ hs.2]
      have h2 : bytesBefore n x.1 = false := by
        cases h : bytesBefore n x.1 with
        | false => rfl
        | true => have := before_trans hb h; rw [before_irr] at this; cases this
      simp [Fs.put, Fs.del, hx, Fs.ins, h2]
    · have hb2 : bytesBefore x.1 n = false := by simpa using hb
      by_cases hx : x.1 = n
      · have h1 : putStep n d (acc, false) x = (acc ++ [(n, d)], true) := by simp [putStep, hx, before_irr]
        rw [h1, put_true]
        have h3 : ∀ p ∈ Fs.del r n, bytesBefore n p.1 = true := fun p hp => by
          have := hs.1 p (mem_del.1 hp).1
          rwa [hx] at this
        have h4 : Fs.del (x :: r) n = Fs.del r n := by simp [Fs.del, hx]
        simp only [if_true, Fs.put, h4, ins_front h3]
        simp
      · have h5 := before_total hb2 hx
        have h1 : putStep n d (acc, false) x = (acc ++ [(n, d)] ++ [x], true) := by simp [putStep, hx, hb2]
        rw [h1, put_true]
        have h4 : Fs.del (x :: r) n = x :: Fs.del r n := by simp [Fs.del, hx]
        have h3 : ∀ p ∈ x :: Fs.del r n, bytesBefore n p.1 = true := fun p hp => by
          rcases List.mem_cons.1 hp with rfl | hp
          · exact h5
          · exact before_trans h5 (hs.1 p (mem_del.1 hp).1)
        simp only [if_true, Fs.put, h4, ins_front h3]
        simp
theorem putEnd_eq {F : Fs} (h : F.Sorted) (n d : Bs) : putEnd n d F = F.put n d := by
  have := put_false n d F [] h
  rw [List.nil_append] at this
  exact this
theorem putAll_len (n d : Bs) (F : Fs) : (putAll n d F).1.length ≤ F.length + 1 ∧ ((putAll n d F).2 = false → (putAll n d F).1.length ≤ F.length) := by
  suffices h : ∀ (F : Fs) (s : Fs × Bool) (m : Nat), s.1.length ≤ m + 1 → (s.2 = false → s.1.length ≤ m) → (F.foldl (putStep n d) s).1.length ≤ m + F.length + 1 ∧ ((F.foldl (putStep n d) s).2 = false → (F.foldl (putStep n d) s).1.length ≤ m + F.length) by
    have := h F ([], false) 0 (by simp) (by simp)
    simpa [putAll] using this
  intro F
  induction F with
  | nil => intro s m h1 h2; simpa using ⟨h1, h2⟩
  | cons x r ih =>
    intro s m h1 h2
    rw [List.foldl_cons]
    have := ih (putStep n d s x) (m + 1) (by
      obtain ⟨s1, s2⟩ := s
      unfold putStep
      dsimp only at *
      cases s2 <;> split <;> split <;> simp_all <;> omega) (by
      obtain ⟨s1, s2⟩ := s
      unfold putStep
      dsimp only at *
      cases s2 <;> split <;> split <;> simp_all)
    simp only [List.length_cons]
    exact ⟨by omega, fun h => by have := this.2 h; omega⟩
end Go.Proofs.YtcffickkipicbaaGreatDoor

/-! RDkA -/
/-! RDkA -/
namespace Go.Proofs.YtcffickkipicbaaGreatDoor
open Go.RowKit Go.Maps

section
variable {w0 w w2 : World} {L : List Res} {v : Value} {F0 : List Nat}
set_option maxRecDepth 100000 in
set_option maxHeartbeats 4000000 in
theorem rFind_any (F : Fs) (n : Bs) (w : World) (hF : F.length ≤ 1000000) (T : FsAt w v F) : Calls Tryz.prog 70 #[v, .string ⟨n.toArray⟩] w fun e w2 => e = .returned (.int .i64 (findI n F)) ∧ w2 = w := by
  have HT := Lib.hid T
  have hn1 : (F.length : Int) ≤ 1000000 := by omega
  have HAT : Hid (∀ k, (h : k < F.length) → n ∉ (F.take k).map (·.1) → F[k].1 = n → findI n F = k) := fun k h h1 h2 => findI_at h h1 h2
  have HNO : Hid (n ∉ F.map (·.1) → findI n F = -1) := findI_no
  obtain ⟨va, vc, rfl⟩ := T.form
  clear T hF
  go_enter Tryz.func70, Tryz.ntmps70
  go_wp2_with fail
  go_loopw [5] (fun at0 wr => wr = w ∧ ∃ k : Nat, at0 = .int .i64 k ∧ k ≤ F.length ∧ n ∉ (F.take k).map (·.1)) (fun at0 _ => F.length - (intOf at0).toNat)
  case atStart => exact ⟨rfl, 0, rfl, Nat.zero_le _, by simp⟩
  case round =>
    obtain ⟨rfl, k, rfl, hk, hnot⟩ := hrel
    have HN := Lib.hid hnot
    clear hnot
    have hk' : (k : Int) ≤ F.length := by omega
    by_cases hlt : k < F.length
    · have hlt' : (k : Int) < F.length := by omega
      obtain ⟨xb, xo, hva, x0, x1⟩ := HT.out.at hlt
      subst hva
      have HTK : Hid ((F.take (k + 1)).map (·.1) = (F.take k).map (·.1) ++ [F[k].1]) := by unfold Hid; rw [List.take_succ_eq_append_getElem hlt, List.map_append]; rfl
      have HA : Hid (F[k].1 = n → findI n F = k) := HAT.out k hlt HN.out
      generalize F[k] = x at *
      obtain ⟨xn, xd⟩ := x
      dsimp only at *
      by_cases he : xn = n
      · subst he
        have HE := Lib.hid (HA.out rfl)
        go_wp2
        go_ret
        rw [HE.out]
        exact ⟨rfl, rfl⟩
      · have HN2 : Hid (n ∉ (F.take (k + 1)).map (·.1)) := by
          unfold Hid
          rw [HTK.out, List.mem_append]
          rintro (h | h)
          · exact HN.out h
          · simp only [List.mem_singleton] at h
            exact he h.symm
        have he' : (xn == n) = false := by simpa using he
        go_wp2_with fail
        go_roundw
        case rel => exact ⟨by trivial, k + 1, by go_num, by omega, HN2.out⟩
        case measure => simp [intOf]; omega
    · obtain rfl : k = F.length := by omega
      have HZ : Hid (findI n F = -1) := HNO.out (by
        have := HN.out
        rw [List.take_length] at this
        exact this)
      go_wp2
      go_ret
      rw [HZ.out]
      exact ⟨rfl, rfl⟩
set_option maxRecDepth 100000 in
set_option maxHeartbeats 4000000 in
theorem rData_any (F : Fs) (n : Bs) (w : World) (hF : F.length ≤ 1000000) (T : FsAt w v F) : Calls Tryz.prog 72 #[v, .string ⟨n.toArray⟩] w fun e w2 => e = .returned (.string ⟨((F.get n).getD []).toArray⟩) ∧ w2 = w := by
  have HF := Lib.hid (rFind_any F n w hF T)
  have HT := Lib.hid T
  have hn1 : (F.length : Int) ≤ 1000000 := by omega
  obtain ⟨va, vc, rfl⟩ := T.form
  have hc := findI_cases n F
  clear T hF
  rcases hc with ⟨h1, _, h3⟩ | ⟨k, hlt, h1, _, h3⟩
  · have H3 := Lib.hid h3
    clear h3
    generalize findI n F = z at *
    subst h1
    go_enter Tryz.func72, Tryz.ntmps72
    go_wp2_with fail
    refine (HF.out).mono ?_
    rintro e wq ⟨rfl, rfl⟩
    go_wp2
    go_ret
    rw [H3.out]
    exact ⟨rfl, rfl⟩
  · have H3 := Lib.hid h3
    have hlt' : (k : Int) < F.length := by omega
    obtain ⟨xb, xo, hva, x0, x1⟩ := HT.out.at hlt
    subst hva
    clear h3
    generalize F[k] = x at *
    generalize findI n F = z at *
    subst h1
    go_enter Tryz.func72, Tryz.ntmps72
    go_wp2_with fail
    refine (HF.out).mono ?_
    rintro e wq ⟨rfl, rfl⟩
    go_wp2
    go_ret
    rw [H3.out]
    exact ⟨rfl, rfl⟩
end
end Go.Proofs.YtcffickkipicbaaGreatDoor

/-! RDkB -/
/-! RDkB -/
namespace Go.Proofs.YtcffickkipicbaaGreatDoor
open Go.RowKit Go.Maps

section
variable {w0 w w2 : World} {L : List Res} {v : Value} {F0 : List Nat}
theorem infoFile : (Tryz.prog.info? 98).map (fun i => (i.zero, i.size, i.bytes)) = some (some (.agg #[.string ⟨#[]⟩, .string ⟨#[]⟩]), 2, 32) := by kernel_rfl
theorem Sp.appendFile {b : Nat} (ty : TypeId) {l : Fs} (x : Bs × Bs) (hn : l.length < 10000000000) (S : Sp w0 F0 w (boxR b #[.string ⟨x.1.toArray⟩, .string ⟨x.2.toArray⟩] 98 :: fsR 98 v l :: L)) :
    ∃ g cap w2, (Builtin.append_ #[85, 85] ty #[v, .slice (some ⟨b, 0, none⟩) 1 1]).run Tryz.prog w = .ok (.slice (some ⟨g, 0, none⟩) (l.length + 1) cap) w2 ∧ Sp w0 F0 w2 (boxR b #[.string ⟨x.1.toArray⟩, .string ⟨x.2.toArray⟩] 98 :: fsR 98 (.slice (some ⟨g, 0, none⟩) (l.length + 1) cap) (l ++ [x]) :: L) := by
  obtain ⟨g, cap, w2, h1, S2⟩ := Sp.appendOne 85 ty #[.string ⟨x.1.toArray⟩, .string ⟨x.2.toArray⟩] _ 32 infoFile rfl Tryz.underlying85 (by decide) (by decide) rfl (by simp [Value.oneCell']) hn S
  refine ⟨g, cap, w2, h1, ?_⟩
  have e2 : (l ++ [x]).length = l.length + 1 := by simp
  unfold fsR
  rw [fsVals_snoc, e2]
  exact S2
set_option maxRecDepth 100000 in
set_option maxHeartbeats 4000000 in
theorem rWithoutS {K : List Rom} (F : Fs) (n : Bs) (hF : F.length ≤ 1000000) (S : Sp w0 F0 w (romR K :: L)) (T : (⟨v, 2, F.map fsVals⟩ : Rom) ∈ K) : Calls Tryz.prog 90 #[v, .string ⟨n.toArray⟩] w fun e w2 => ∃ u, e = .returned u ∧ Sp w0 F0 w2 (fsR 98 u (F.del n) :: romR K :: L) := by
  have HT := Lib.hid T
  have hn1 : (F.length : Int) ≤ 1000000 := by omega
  obtain ⟨va, vc, rfl⟩ := (S.romFs T).form
  have HS1 : Hid (Sp w0 F0 (w.alloc (.cells #[] 98)) (fsR 98 (.slice (some ⟨w.heap.size, 0, none⟩) 0 0) [] :: romR K :: L)) := Lib.hid (S.rowLaid 98 2 0 [] rfl (by unfold maxLen; omega))
  clear T S hF
  go_enter Tryz.func90, Tryz.ntmps90
  go_wp2_with fail
  generalize w.alloc _ = w1 at *
  generalize w.heap.size = g0 at *
  go_loopw [5, 6] (fun z at0 wr => ∃ k : Nat, at0 = .int .i64 k ∧ k ≤ F.length ∧ Sp w0 F0 wr (fsR 98 z (Fs.del (F.take k) n) :: romR K :: L)) (fun _ at0 _ => F.length - (intOf at0).toNat)
  case atStart => exact ⟨0, rfl, Nat.zero_le _, HS1.out⟩
  case round =>
    obtain ⟨k, rfl, hk, S1⟩ := hrel
    have HS := Lib.hid S1
    clear HS1
    have hk' : (k : Int) ≤ F.length := by omega
    by_cases hlt : k < F.length
    · have hlt' : (k : Int) < F.length := by omega
      obtain ⟨xb, xo, hva, x0, x1⟩ := (Sp.romFs S1.drop HT.out).at hlt
      subst hva
      clear S1
      have HD : Hid (Fs.del (F.take (k + 1)) n = if F[k].1 = n then Fs.del (F.take k) n else Fs.del (F.take k) n ++ [F[k]]) := by
        unfold Hid Fs.del
        rw [List.take_succ_eq_append_getElem hlt, List.filter_append]
        split <;> rename_i h <;> simp [h]
      have HLN : Hid ((Fs.del (F.take k) n).length ≤ k) := by
        unfold Hid Fs.del
        have := List.length_filter_le (fun p : Bs × Bs => !(p.1 == n)) (F.take k)
        rw [List.length_take] at this
        omega
      generalize F[k] = x at *
      generalize Fs.del (F.take k) n = ol at *
      obtain ⟨xn, xd⟩ := x
      dsimp only at *
      by_cases he : xn = n
      · subst he
        have HD2 := Lib.hid (HD.out.trans (if_pos rfl))
        go_wp2_with fail
        go_roundw
        case rel => exact ⟨k + 1, by go_num, by omega, by rw [HD2.out]; exact HS.out⟩
        case measure => simp [intOf]; omega
      · have he' : (xn == n) = false := by simpa using he
        have HD2 := Lib.hid (HD.out.trans (if_neg he))
        obtain ⟨gg, cap, w4, hrun, S4⟩ := Sp.appendFile 85 (xn, xd) (by have := HLN.out; omega) (HS.out.box #[.string ⟨xn.toArray⟩, .string ⟨xd.toArray⟩] 98)
        have HRUN := Lib.hid hrun
        have HS4 := Lib.hid S4.drop
        clear S4 hrun
        rw [← HD2.out] at HS4
        go_wp2_with (at_builtin; refine wpList_append_run_g (by rfl) (by rfl) (by rfl) (by rfl) HRUN.out ?_)
        go_roundw
        case rel => exact ⟨k + 1, by go_num, by omega, HS4.out⟩
        case measure => simp [intOf]; omega
    · obtain rfl : k = F.length := by omega
      rw [List.take_length] at S1 HS
      go_wp2
      go_ret
      exact ⟨_, rfl, HS.out⟩
set_option maxRecDepth 100000 in
set_option maxHeartbeats 8000000 in
theorem rPutS {K : List Rom} (F : Fs) (n d : Bs) (hF : F.length ≤ 1000000) (hs : F.Sorted) (S : Sp w0 F0 w (romR K :: L)) (T : (⟨v, 2, F.map fsVals⟩ : Rom) ∈ K) : Calls Tryz.prog 89 #[v, .string ⟨n.toArray⟩, .string ⟨d.toArray⟩] w fun e w2 => ∃ u, e = .returned u ∧ Sp w0 F0 w2 (fsR 98 u (F.put n d) :: romR K :: L) := by
  have HT := Lib.hid T
  have HV := Lib.hid (putEnd_eq hs n d).symm
  rw [HV.out]
  have hn1 : (F.length : Int) ≤ 1000000 := by omega
  obtain ⟨va, vc, rfl⟩ := (S.romFs T).form
  have HS1 : Hid (Sp w0 F0 (w.alloc (.cells #[] 98)) (fsR 98 (.slice (some ⟨w.heap.size, 0, none⟩) 0 0) [] :: romR K :: L)) := Lib.hid (S.rowLaid 98 2 0 [] rfl (by unfold maxLen; omega))
  clear T S hF hs HV
  go_enter Tryz.func89, Tryz.ntmps89
  go_wp2_with fail
  generalize w.alloc _ = w1 at *
  generalize w.heap.size = g0 at *
  go_loopw [7, 8, 9] (fun z q at0 wr => ∃ k : Nat, at0 = .int .i64 k ∧ k ≤ F.length ∧ q = .bool (putAll n d (F.take k)).2 ∧ Sp w0 F0 wr (fsR 98 z (putAll n d (F.take k)).1 :: romR K :: L)) (fun _ _ at0 _ => F.length - (intOf at0).toNat)
  case atStart => exact ⟨0, rfl, Nat.zero_le _, rfl, HS1.out⟩
  case round =>
    obtain ⟨k, rfl, hk, rfl, S1⟩ := hrel
    have HS := Lib.hid S1
    clear HS1
    have hk' : (k : Int) ≤ F.length := by omega
    have HLN : Hid ((putAll n d (F.take k)).1.length ≤ k + 1) := by
      have := (putAll_len n d (F.take k)).1
      rw [List.length_take] at this
      unfold Hid
      omega
    by_cases hlt : k < F.length
    · have hlt' : (k : Int) < F.length := by omega
      obtain ⟨xb, xo, hva, x0, x1⟩ := (Sp.romFs S1.drop HT.out).at hlt
      subst hva
      clear S1
      have HX : Hid (∀ (W : World) (z : Value) (l : Fs), Sp w0 F0 W (fsR 98 z l :: romR K :: L) → W.cell? ⟨xb, xo + k * 2, none⟩ = some (.string ⟨F[k].1.toArray⟩) ∧ W.cell? ⟨xb, xo + k * 2 + 1, none⟩ = some (.string ⟨F[k].2.toArray⟩)) := fun W z l S' => by
        obtain ⟨b, o, e, y0, y1⟩ := (Sp.romFs S'.drop HT.out).at hlt
        cases e
        exact ⟨y0, y1⟩
      have HD : Hid (putAll n d (F.take (k + 1)) = putStep n d (putAll n d (F.take k)) F[k]) := putAll_take n d F k hlt
      generalize F[k] = x at *
      generalize putAll n d (F.take k) = st at *
      obtain ⟨xn, xd⟩ := x
      obtain ⟨ol, q⟩ := st
      dsimp only at *
      have HAP := Lib.hid (fun (W : World) (z : Value) (l : Fs) (x : Bs × Bs) (hl : l.length ≤ 2000000) (S' : Sp w0 F0 W (fsR 98 z l :: romR K :: L)) => Sp.appendFile 85 x (by omega) (S'.box #[.string ⟨x.1.toArray⟩, .string ⟨x.2.toArray⟩] 98))
      have hlb : bytesBefore xn n = Op.bytesLess xn n := by rw [bytesLess_eq, bytesBefore_eq]
      by_cases hx : xn = n
      · subst hx
        have hb0 : Op.bytesLess xn xn = false := by rw [← hlb]; exact before_irr xn
        cases q with
        | true =>
          have HD2 : Hid (putAll xn d (F.take (k + 1)) = (ol, true)) := HD.out.trans (by simp [putStep])
          clear hlb HAP HX
          go_wp2_with fail
          go_roundw
          case rel => exact ⟨k + 1, by go_num, by omega, by rw [HD2.out], by rw [HD2.out]; exact HS.out⟩
          case measure => simp [intOf]; omega
        | false =>
          have HD2 : Hid (putAll xn d (F.take (k + 1)) = (ol ++ [(xn, d)], true)) := HD.out.trans (by simp [putStep, hlb, hb0])
          obtain ⟨gg, cap, w4, hrun, S4⟩ := HAP.out _ _ (ol) ((xn, d)) (by have := HLN.out; omega) (HS.out)
          obtain ⟨y0, y1⟩ := HX.out _ _ (_ ++ [_]) (by simpa using S4.drop)
          have HRUN := Lib.hid hrun
          have HS4 := Lib.hid S4.drop
          clear S4 hrun
          clear hlb HAP HX
          go_wp2_with (at_builtin; refine wpList_append_run_g (by rfl) (by rfl) (by rfl) (by rfl) HRUN.out ?_)
          go_roundw
          case rel => exact ⟨k + 1, by go_num, by omega, by rw [HD2.out], by rw [HD2.out]; exact HS4.out⟩
          case measure => simp [intOf]; omega
      · have hx2 : (xn == n) = false := by simpa using hx
        cases q with
        | true =>
          have HD2 : Hid (putAll n d (F.take (k + 1)) = (ol ++ [(xn, xd)], true)) := HD.out.trans (by simp [putStep, hx])
          obtain ⟨gg, cap, w4, hrun, S4⟩ := HAP.out _ _ (ol) ((xn, xd)) (by have := HLN.out; omega) (HS.out)
          have HRUN := Lib.hid hrun
          have HS4 := Lib.hid S4.drop
          clear S4 hrun
          clear hlb HAP HX hx
          go_wp2_with (at_builtin; refine wpList_append_run_g (by rfl) (by rfl) (by rfl) (by rfl) HRUN.out ?_)
          go_roundw
          case rel => exact ⟨k + 1, by go_num, by omega, by rw [HD2.out], by rw [HD2.out]; exact HS4.out⟩
          case measure => simp [intOf]; omega
        | false =>
          cases hbl : Op.bytesLess xn n with
          | true =>
            have HD2 : Hid (putAll n d (F.take (k + 1)) = (ol ++ [(xn, xd)], false)) := HD.out.trans (by simp [putStep, hx, hlb, hbl])
            obtain ⟨gg, cap, w4, hrun, S4⟩ := HAP.out _ _ (ol) ((xn, xd)) (by have := HLN.out; omega) (HS.out)
            have HRUN := Lib.hid hrun
            have HS4 := Lib.hid S4.drop
            clear S4 hrun
            clear hlb HAP HX hx
            go_wp2_with (at_builtin; refine wpList_append_run_g (by rfl) (by rfl) (by rfl) (by rfl) HRUN.out ?_)
            go_roundw
            case rel => exact ⟨k + 1, by go_num, by omega, by rw [HD2.out], by rw [HD2.out]; exact HS4.out⟩
            case measure => simp [intOf]; omega
          | false =>
            have HD2 : Hid (putAll n d (F.take (k + 1)) = (ol ++ [(n, d)] ++ [(xn, xd)], true)) := HD.out.trans (by simp [putStep, hx, hlb, hbl])
            obtain ⟨gg, cap, w4, hrun, S4⟩ := HAP.out _ _ (ol) ((n, d)) (by have := HLN.out; omega) (HS.out)
            obtain ⟨y0, y1⟩ := HX.out _ _ (_ ++ [_]) (by simpa using S4.drop)
            have HRUN := Lib.hid hrun
            have HS4 := Lib.hid S4.drop
            clear S4 hrun
            have HLN2 : Hid ((ol ++ [(n, d)]).length ≤ k + 2) := by unfold Hid; have := HLN.out; simp; omega
            obtain ⟨gg2, cap2, w42, hrun2, S42⟩ := HAP.out _ _ (ol ++ [(n, d)]) ((xn, xd)) (by have := HLN2.out; omega) (HS4.out)
            have HRUN2 := Lib.hid hrun2
            have HS42 := Lib.hid S42.drop
            clear S42 hrun2
            rw [show (ol ++ [(n, d)]).length = ol.length + 1 from by simp] at HRUN2 HS42
            clear hlb HAP HX hx
            go_wp2_with (at_builtin; first | refine wpList_append_run_g (by rfl) (by rfl) (by rfl) (by rfl) HRUN.out ?_ | refine wpList_append_run_g (by rfl) (by rfl) (by rfl) (by rfl) HRUN2.out ?_)
            go_roundw
            case rel => exact ⟨k + 1, by go_num, by omega, by rw [HD2.out], by rw [HD2.out]; exact HS42.out⟩
            case measure => simp [intOf]; omega
    · obtain rfl : k = F.length := by omega
      rw [List.take_length] at S1 HS HLN ⊢
      have HE : Hid (putEnd n d F = if (putAll n d F).2 then (putAll n d F).1 else (putAll n d F).1 ++ [(n, d)]) := rfl
      generalize putAll n d F = st at *
      obtain ⟨ol, q⟩ := st
      dsimp only at *
      cases q with
      | true =>
        go_wp2
        go_ret
        exact ⟨_, rfl, by rw [HE.out]; exact HS.out⟩
      | false =>
        obtain ⟨gg, cap, w4, hrun, S4⟩ := Sp.appendFile 85 (n, d) (by have := HLN.out; omega) (HS.out.box #[.string ⟨n.toArray⟩, .string ⟨d.toArray⟩] 98)
        have HRUN := Lib.hid hrun
        have HS4 := Lib.hid S4.drop
        clear S4 hrun
        go_wp2_with (at_builtin; refine wpList_append_run_g (by rfl) (by rfl) (by rfl) (by rfl) HRUN.out ?_)
        go_ret
        exact ⟨_, rfl, by rw [HE.out]; exact HS4.out⟩
end
end Go.Proofs.YtcffickkipicbaaGreatDoor

/-! RDkC -/
/-! RDkC -/
namespace Go.Proofs.YtcffickkipicbaaGreatDoor
open Go.RowKit Go.Maps

section
variable {w0 w w2 : World} {L : List Res} {v : Value} {F0 : List Nat} {K K2 : List Rom}
theorem Sp.romSub (S : Sp w0 F0 w (romR K :: L)) (h : ∀ q ∈ K2, q ∈ K) : Sp w0 F0 w (romR K2 :: L) := S.as fun _ h2 => ⟨fun x hx => h2.1 x (h x hx), h2.2⟩
abbrev fsK (u : Value) (F : Fs) : Rom := ⟨u, 2, F.map fsVals⟩
theorem rDataS (F : Fs) (n : Bs) (hF : F.length ≤ 1000000) (S : Sp w0 F0 w (romR K :: L)) (T : fsK v F ∈ K) : Calls Tryz.prog 72 #[v, .string ⟨n.toArray⟩] w fun e w2 => e = .returned (.string ⟨((F.get n).getD []).toArray⟩) ∧ Sp w0 F0 w2 (romR K :: L) :=
  (rData_any F n w hF (S.romFs T)).mono fun e w2 h => ⟨h.1, by rw [h.2]; exact S⟩
theorem rFindS (F : Fs) (n : Bs) (hF : F.length ≤ 1000000) (S : Sp w0 F0 w (romR K :: L)) (T : fsK v F ∈ K) : Calls Tryz.prog 70 #[v, .string ⟨n.toArray⟩] w fun e w2 => e = .returned (.int .i64 (findI n F)) ∧ Sp w0 F0 w2 (romR K :: L) :=
  (rFind_any F n w hF (S.romFs T)).mono fun e w2 h => ⟨h.1, by rw [h.2]; exact S⟩
theorem rPutM (F : Fs) (n d : Bs) (hF : F.length ≤ 1000000) (hs : F.Sorted) (S : Sp w0 F0 w (romR K :: L)) (T : fsK v F ∈ K) : Calls Tryz.prog 89 #[v, .string ⟨n.toArray⟩, .string ⟨d.toArray⟩] w fun e w2 => ∃ u, e = .returned u ∧ Sp w0 F0 w2 (romR (fsK u (F.put n d) :: K) :: L) :=
  (rPutS F n d hF hs S T).mono fun _ _ ⟨u, h, S⟩ => ⟨u, h, S.fsMore⟩
theorem rWithoutM (F : Fs) (n : Bs) (hF : F.length ≤ 1000000) (S : Sp w0 F0 w (romR K :: L)) (T : fsK v F ∈ K) : Calls Tryz.prog 90 #[v, .string ⟨n.toArray⟩] w fun e w2 => ∃ u, e = .returned u ∧ Sp w0 F0 w2 (romR (fsK u (F.del n) :: K) :: L) :=
  (rWithoutS F n hF S T).mono fun _ _ ⟨u, h, S⟩ => ⟨u, h, S.fsMore⟩
theorem del_len (F : Fs) (n : Bs) : (F.del n).length ≤ F.length := List.length_filter_le _ _
set_option maxRecDepth 100000 in
set_option maxHeartbeats 8000000 in
theorem rDoS (F : Fs) (e : Ev) (hF : F.length ≤ 1000000) (hs : F.Sorted) (hd : e.op = 2 → ((F.get e.name).getD []).length + e.data.length ≤ maxLen) (S : Sp w0 F0 w (romR K :: L)) (T : fsK v F ∈ K) : Calls Tryz.prog 68 #[v, e.agg] w fun r w2 => ∃ u, r = .returned u ∧ Sp w0 F0 w2 (romR (fsK u (F.did e) :: K) :: L) := by
  obtain ⟨op, n, rc, d⟩ := e
  have HT := Lib.hid T
  have HS0 := Lib.hid (S.box #[.int .i64 op, .string ⟨n.toArray⟩, .string ⟨rc.toArray⟩, .string ⟨d.toArray⟩] 93).pull1
  have HV := Lib.hid (show F.did ⟨op, n, rc, d⟩ = if op = 1 then F.put n d else if op = 2 then F.put n ((F.get n).getD [] ++ d) else if op = 3 then (F.del n).put rc ((F.get n).getD []) else if op = 4 then F.del n else F from rfl)
  have HF := Lib.hid hF
  have HSO := Lib.hid hs
  have HD := Lib.hid hd
  clear S T hF hs hd
  dsimp only at *
  go_enter Tryz.func68, Tryz.ntmps68
  go_upto_region 1 with (fail)
  generalize w.alloc _ = w1 at *
  generalize w.heap.size = q at *
  have c1 := (HS0.out.pull1).cell
  by_cases h1 : op = 1
  · subst h1
    go_wp2_with fail
    refine (rPutM F n d HF.out HSO.out HS0.out HT.out).mono ?_
    rintro e w2 ⟨u, rfl, S2⟩
    have HS2 := Lib.hid (S2.pull1.drop)
    clear S2 c1 HS0
    go_wp2
    go_ret
    rw [HV.out]
    exact ⟨_, rfl, HS2.out⟩
  by_cases h2 : op = 2
  · subst h2
    have hsum : ((F.get n).getD []).length + d.length ≤ maxLen := HD.out rfl
    have hap := ByteArray.mk_append_mk ((F.get n).getD []) d
    have hadd := fun w => run_string_add_sum (P := Tryz.prog) w ⟨((F.get n).getD []).toArray⟩ ⟨d.toArray⟩ hsum
    rw [hap] at hadd
    clear hap hsum HD
    go_upto_region 5 with (fail)
    clear c1
    refine wp_region_chainG [0, 1, 2, 3, 4, 5, 7, 8, 6, 9, 10, 11] (fun c => c == 6 || c == 10) (fun c => false) (T := fun wx => (∀ o, wx.cell? ⟨q, o, none⟩ = (#[.int .i64 2, .string ⟨n.toArray⟩, .string ⟨rc.toArray⟩, .string ⟨d.toArray⟩] : Array Value)[o]?)) (S := fun wx => Sp w0 F0 wx (romR K :: boxR q #[.int .i64 2, .string ⟨n.toArray⟩, .string ⟨rc.toArray⟩, .string ⟨d.toArray⟩] 93 :: L)) (by kernel_rfl) (by kernel_rfl) (by kernel_rfl) HS0.out.drew (fun x h => h.pull1.cell) ?_
    repeat
      refine Exists.intro _ (And.intro rfl (Or.inl (Exists.intro ?_ (And.intro (fun wS hS K hK => ?_) (And.intro ?_ ?_)))))
      rotate_left 1
      · have t0 := hS
        first
          | (refine if_unwanted rfl ?_; simp only [Act.put, List.setIfInBounds_toArray, List.set_cons_zero, List.set_cons_succ]; exact hK.out)
          | (refine if_wanted rfl ?_; go_simp; exact hK.out)
      · rfl
    refine ChainG.one rfl rfl rfl (fun wS hS R hR => ?_)
    go_simp
    go_at_call 72
    refine (rDataS F n HF.out hS HT.out).mono ?_
    rintro e w7 ⟨rfl, S7⟩
    refine hR.out _ _ rfl (fun wx => (∀ o, wx.cell? ⟨q, o, none⟩ = (#[.int .i64 2, .string ⟨n.toArray⟩, .string ⟨rc.toArray⟩, .string ⟨d.toArray⟩] : Array Value)[o]?)) (fun wx => Sp w0 F0 wx (romR K :: boxR q #[.int .i64 2, .string ⟨n.toArray⟩, .string ⟨rc.toArray⟩, .string ⟨d.toArray⟩] 93 :: L)) S7 (fun x h => h.pull1.cell) (fun _ h => h) ?_
    clear hR hS S7
    repeat
      refine Exists.intro _ (And.intro rfl (Or.inl (Exists.intro ?_ (And.intro (fun wS hS K hK => ?_) (And.intro ?_ ?_)))))
      rotate_left 1
      · have t0 := hS
        first
          | (refine if_unwanted rfl ?_; simp only [Act.put, List.setIfInBounds_toArray, List.set_cons_zero, List.set_cons_succ]; exact hK.out)
          | (refine if_wanted rfl ?_; go_simp; exact hK.out)
      · rfl
    refine ChainG.one rfl rfl rfl (fun wS hS R hR => ?_)
    go_simp
    go_at_call 89
    refine (rPutM F n ((F.get n).getD [] ++ d) HF.out HSO.out hS HT.out).mono ?_
    rintro e w7 ⟨u, rfl, S7⟩
    refine hR.out _ _ rfl (fun wx => (∀ o, wx.cell? ⟨q, o, none⟩ = (#[.int .i64 2, .string ⟨n.toArray⟩, .string ⟨rc.toArray⟩, .string ⟨d.toArray⟩] : Array Value)[o]?)) (fun wx => Sp w0 F0 wx (romR (fsK u (F.put n ((F.get n).getD [] ++ d)) :: K) :: boxR q #[.int .i64 2, .string ⟨n.toArray⟩, .string ⟨rc.toArray⟩, .string ⟨d.toArray⟩] 93 :: L)) S7 (fun x h => h.pull1.cell) (fun _ h => h) ?_
    clear hR hS S7
    repeat
      refine Exists.intro _ (And.intro rfl (Or.inl (Exists.intro ?_ (And.intro (fun wS hS K hK => ?_) (And.intro ?_ ?_)))))
      rotate_left 1
      · have t0 := hS
        first
          | (refine if_unwanted rfl ?_; simp only [Act.put, List.setIfInBounds_toArray, List.set_cons_zero, List.set_cons_succ]; exact hK.out)
          | (refine if_wanted rfl ?_; go_simp; exact hK.out)
      · rfl
    intro wE hE
    have HSE := Lib.hid hE
    clear hE
    have HS2 := Lib.hid (HSE.out.pull1.drop)
    go_wp2
    go_ret
    rw [HV.out]
    exact ⟨_, rfl, HS2.out⟩
  by_cases h3 : op = 3
  · subst h3
    clear HD
    go_upto_region 7 with (fail)
    clear c1
    refine wp_region_chainG [0, 1, 2, 4, 5, 6, 7, 8, 3, 9, 10, 11] (fun c => c == 3 || c == 9 || c == 10) (fun c => false) (T := fun wx => (∀ o, wx.cell? ⟨q, o, none⟩ = (#[.int .i64 3, .string ⟨n.toArray⟩, .string ⟨rc.toArray⟩, .string ⟨d.toArray⟩] : Array Value)[o]?)) (S := fun wx => Sp w0 F0 wx (romR K :: boxR q #[.int .i64 3, .string ⟨n.toArray⟩, .string ⟨rc.toArray⟩, .string ⟨d.toArray⟩] 93 :: L)) (by kernel_rfl) (by kernel_rfl) (by kernel_rfl) HS0.out.drew (fun x h => h.pull1.cell) ?_
    repeat
      refine Exists.intro _ (And.intro rfl (Or.inl (Exists.intro ?_ (And.intro (fun wS hS K hK => ?_) (And.intro ?_ ?_)))))
      rotate_left 1
      · have t0 := hS
        first
          | (refine if_unwanted rfl ?_; simp only [Act.put, List.setIfInBounds_toArray, List.set_cons_zero, List.set_cons_succ]; exact hK.out)
          | (refine if_wanted rfl ?_; go_simp; exact hK.out)
      · rfl
    refine ChainG.one rfl rfl rfl (fun wS hS R hR => ?_)
    go_simp
    go_at_call 90
    refine (rWithoutM F n HF.out hS HT.out).mono ?_
    rintro e w7 ⟨u1, rfl, S7⟩
    refine hR.out _ _ rfl (fun wx => (∀ o, wx.cell? ⟨q, o, none⟩ = (#[.int .i64 3, .string ⟨n.toArray⟩, .string ⟨rc.toArray⟩, .string ⟨d.toArray⟩] : Array Value)[o]?)) (fun wx => Sp w0 F0 wx (romR (fsK u1 (F.del n) :: K) :: boxR q #[.int .i64 3, .string ⟨n.toArray⟩, .string ⟨rc.toArray⟩, .string ⟨d.toArray⟩] 93 :: L)) S7 (fun x h => h.pull1.cell) (fun _ h => h) ?_
    clear hR hS S7
    repeat
      refine Exists.intro _ (And.intro rfl (Or.inl (Exists.intro ?_ (And.intro (fun wS hS K hK => ?_) (And.intro ?_ ?_)))))
      rotate_left 1
      · have t0 := hS
        first
          | (refine if_unwanted rfl ?_; simp only [Act.put, List.setIfInBounds_toArray, List.set_cons_zero, List.set_cons_succ]; exact hK.out)
          | (refine if_wanted rfl ?_; go_simp; exact hK.out)
      · rfl
    refine ChainG.one rfl rfl rfl (fun wS hS R hR => ?_)
    go_simp
    go_at_call 72
    refine (rDataS F n HF.out hS (List.mem_cons_of_mem _ HT.out)).mono ?_
    rintro e w7 ⟨rfl, S7⟩
    refine hR.out _ _ rfl (fun wx => (∀ o, wx.cell? ⟨q, o, none⟩ = (#[.int .i64 3, .string ⟨n.toArray⟩, .string ⟨rc.toArray⟩, .string ⟨d.toArray⟩] : Array Value)[o]?)) (fun wx => Sp w0 F0 wx (romR (fsK u1 (F.del n) :: K) :: boxR q #[.int .i64 3, .string ⟨n.toArray⟩, .string ⟨rc.toArray⟩, .string ⟨d.toArray⟩] 93 :: L)) S7 (fun x h => h.pull1.cell) (fun _ h => h) ?_
    clear hR hS S7
    repeat
      refine Exists.intro _ (And.intro rfl (Or.inl (Exists.intro ?_ (And.intro (fun wS hS K hK => ?_) (And.intro ?_ ?_)))))
      rotate_left 1
      · have t0 := hS
        first
          | (refine if_unwanted rfl ?_; simp only [Act.put, List.setIfInBounds_toArray, List.set_cons_zero, List.set_cons_succ]; exact hK.out)
          | (refine if_wanted rfl ?_; go_simp; exact hK.out)
      · rfl
    refine ChainG.one rfl rfl rfl (fun wS hS R hR => ?_)
    go_simp
    go_at_call 89
    refine (rPutM (v := u1) (F.del n) rc ((F.get n).getD []) (Nat.le_trans (del_len F n) HF.out) (HSO.out.del n) hS List.mem_cons_self).mono ?_
    rintro e w7 ⟨u, rfl, S7⟩
    refine hR.out _ _ rfl (fun wx => (∀ o, wx.cell? ⟨q, o, none⟩ = (#[.int .i64 3, .string ⟨n.toArray⟩, .string ⟨rc.toArray⟩, .string ⟨d.toArray⟩] : Array Value)[o]?)) (fun wx => Sp w0 F0 wx (romR (fsK u ((F.del n).put rc ((F.get n).getD [])) :: fsK u1 (F.del n) :: K) :: boxR q #[.int .i64 3, .string ⟨n.toArray⟩, .string ⟨rc.toArray⟩, .string ⟨d.toArray⟩] 93 :: L)) S7 (fun x h => h.pull1.cell) (fun _ h => h) ?_
    clear hR hS S7
    repeat
      refine Exists.intro _ (And.intro rfl (Or.inl (Exists.intro ?_ (And.intro (fun wS hS K hK => ?_) (And.intro ?_ ?_)))))
      rotate_left 1
      · have t0 := hS
        first
          | (refine if_unwanted rfl ?_; simp only [Act.put, List.setIfInBounds_toArray, List.set_cons_zero, List.set_cons_succ]; exact hK.out)
          | (refine if_wanted rfl ?_; go_simp; exact hK.out)
      · rfl
    intro wE hE
    have HSE := Lib.hid hE
    clear hE
    have HS2 := Lib.hid (HSE.out.pull1.drop)
    go_wp2
    go_ret
    rw [HV.out]
    exact ⟨_, rfl, HS2.out.romSub (by simp; intro a h; exact .inr (.inr h))⟩
  by_cases h4 : op = 4
  · subst h4
    go_wp2_with fail
    refine (rWithoutM F n HF.out HS0.out HT.out).mono ?_
    rintro e w2 ⟨u, rfl, S2⟩
    have HS2 := Lib.hid (S2.pull1.drop)
    clear S2 c1 HS0
    go_wp2
    go_ret
    rw [HV.out]
    exact ⟨_, rfl, HS2.out⟩
  · have HV2 : Hid (F.did ⟨op, n, rc, d⟩ = F) := HV.out.trans (by rw [if_neg h1, if_neg h2, if_neg h3, if_neg h4])
    have HS2 := Lib.hid (HS0.out.pull1.drop)
    go_wp2
    go_ret
    rw [HV2.out]
    exact ⟨_, rfl, HS2.out.romSub (by simp [HT.out])⟩
end
end Go.Proofs.YtcffickkipicbaaGreatDoor

/-! RDkD -/
/-! RDkD -/
namespace Go.Proofs.YtcffickkipicbaaGreatDoor
open Go.RowKit Go.Maps

section
variable {w0 w : World} {F0 : List Nat} {L : List Res} {e k n b : Nat} {v sv : Value} {xs : List Value} {K : List Rom} {rows : List (List Value)}
theorem flat_len : ∀ {rows : List (List Value)}, (∀ x ∈ rows, x.length = k) → rows.flatten.length = rows.length * k
  | [], _ => by simp
  | x :: r, h => by
    rw [List.flatten_cons, List.length_append, h x (by simp), flat_len (fun y hy => h y (by simp [hy])), List.length_cons, Nat.add_mul]
    omega
theorem rows_flat_at (hl : ∀ x ∈ rows, x.length = k) (hk : 0 < k) {j : Nat} {u : Value} (h : rows.flatten[j]? = some u) : ∃ r, rows[j / k]? = some r ∧ r[j % k]? = some u := by
  have hlen : rows.flatten.length = rows.length * k := by
    exact flat_len hl
  have hj : j < rows.length * k := by rw [← hlen]; exact (List.getElem?_eq_some_iff.1 h).1
  have hi : j / k < rows.length := Nat.div_lt_of_lt_mul (by rw [Nat.mul_comm]; exact hj)
  refine ⟨rows[j / k], List.getElem?_eq_getElem hi, ?_⟩
  rw [← cells_take rows k (j / k) _ hl (List.getElem?_eq_getElem hi) (j % k) (Nat.mod_lt _ hk), Nat.mul_comm, Nat.div_add_mod]
  exact h
/-- append(v, rows..), the rows read only. -/
theorem Sp.appendRom (t ty : TypeId) (z : Value) (bytes : Nat) (hinf : (Tryz.prog.info? e).map (fun i => (i.zero, i.size, i.bytes)) = some (some z, k, bytes)) (hzk : z.cells.size = k) (ht : Tryz.prog.underlying t = some (.slice e)) (hk : 0 < k) (hby : bytes ≤ 1000)
    (hq : (⟨sv, k, rows⟩ : Rom) ∈ K) (hl : ∀ x ∈ rows, x.length = k) (h1 : ∀ u ∈ rows.flatten, u.oneCell' = true) (hn : n + rows.length < 10000000000) (S : Sp w0 F0 w (rowR e k v n xs :: romR K :: L)) :
    ∃ u w2, (Builtin.append_ #[t, t] ty #[v, sv]).run Tryz.prog w = .ok u w2 ∧ Sp w0 F0 w2 (rowR e k u (n + rows.length) (xs ++ rows.flatten) :: romR K :: L) := by
  obtain ⟨i0, hi0, hz0, hz1, hz2⟩ := info_parts hinf
  have hown := S.row
  obtain ⟨F, a, cap, hv, hc1, hc2, h4⟩ := S.drop.rom hq
  dsimp only at hv hc1 hc2 h4
  subst hv
  have hlen : rows.flatten.length = rows.length * k := by
    exact flat_len hl
  rcases h4 with rfl | ⟨b, off, rfl, _, hb, hc⟩
  · refine ⟨v, w, ?_, by simpa using S⟩
    have hsrc : Src Tryz.prog i0.size t (.slice a ([] : List (List Value)).length cap) 0 [] w :=
      ⟨.inl ⟨_, ht⟩, fun w' => by simp [Builtin.lenOf], by cases a <;> simp [Builtin.firstCells, loadCells, loadCellsFrom], by cases a <;> simp [Builtin.firstCells, loadCells, loadCellsFrom], by simp, by simp⟩
    rcases hown.2 with ⟨rfl, _⟩ | ⟨g, cap2, cur, rfl, _, _, hle, _⟩
    · exact run_append_nothing w t t ty e i0 ht hi0 none 0 0 (Nat.le_refl _) _ hsrc
    · exact run_append_nothing w t t ty e i0 ht hi0 _ n cap2 hle _ hsrc
  · have hnews : ∀ j u, rows.flatten[j]? = some u → w.cell? ((⟨b, off, none⟩ : Addr).add j) = some u := fun j u hj => by
      obtain ⟨r, h5, h6⟩ := rows_flat_at hl hk hj
      have h7 := hc _ _ _ _ h5 h6
      have hadd : (⟨b, off, none⟩ : Addr).add j = ⟨b, off + j / k * k + j % k, none⟩ := by
        have : j / k * k + j % k = j := Nat.div_add_mod' j k
        rw [Nat.add_assoc, this]
        unfold Addr.add
        split <;> simp_all
      rw [hadd]
      exact h7
    obtain ⟨u, w2, hr, ho, hg, _, hat⟩ := run_append_own_at (P := Tryz.prog) w 0 t ty e i0 z k bytes ht hi0 hz0 hz1 hz2 hzk hk v n xs hown ⟨b, off, none⟩ rows.length cap rows.flatten hlen hnews h1 (by unfold maxLen; omega)
      (by have : (n + rows.length) * bytes ≤ 10000000000 * 1000 := Nat.mul_le_mul (by omega) hby; omega) (Nat.zero_le _)
    obtain ⟨F, ⟨rfl, _⟩, hk3⟩ := S.take
    refine ⟨u, w2, hr, hk3 w2 (rowR e k u (n + rows.length) (xs ++ rows.flatten)) u.ownBlock.toList ⟨rfl, ho⟩ ⟨⟨hg.os, hg.tape, hg.output, hg.size, fun j hj hn => hg.block j hj (fun e => hn (by simp [← e]))⟩, fun x hx => ?_⟩⟩
    rcases hat with h | h
    · exact .inl (by rwa [h] at hx)
    · rw [h] at hx
      simp only [Option.toList_some, List.mem_singleton] at hx
      exact .inr (by omega)
end
end Go.Proofs.YtcffickkipicbaaGreatDoor

/-! RDkM -/
/-! RDkM -/
namespace Go.Proofs.YtcffickkipicbaaGreatDoor
open Go.RowKit Go.Maps

theorem okChar_nat (c : UInt8) : okChar c = decide ((97 ≤ c.toNat ∧ c.toNat ≤ 122) ∨ (48 ≤ c.toNat ∧ c.toNat ≤ 57) ∨ c.toNat = 46 ∨ c.toNat = 95 ∨ c.toNat = 45 ∨ c.toNat = 47) := by
  have h : ∀ n : Fin 256, okChar (UInt8.ofNat n.val) = decide ((97 ≤ n.val ∧ n.val ≤ 122) ∨ (48 ≤ n.val ∧ n.val ≤ 57) ∨ n.val = 46 ∨ n.val = 95 ∨ n.val = 45 ∨ n.val = 47) := by decide +kernel
  have := h ⟨c.toNat, c.toNat_lt⟩
  simpa using this
set_option maxRecDepth 100000 in
set_option maxHeartbeats 4000000 in
theorem rMay_bytes (s : ByteArray) (w : World) (hs : s.size ≤ maxLen) :
    Calls Tryz.prog 69 #[.string s] w fun e w2 => e = .returned (.bool (may s.data.toList)) ∧ w2 = w := by
  unfold maxLen at hs
  go_enter Tryz.func69, Tryz.ntmps69
  go_wp2_with fail
  go_loopw [3] (fun i wr => wr = w ∧ ∃ k : Nat, k ≤ s.size ∧ i = .int .i64 k ∧ (s.data.toList.take k).all okChar = true) (fun i _ => s.size - (intOf i).toNat)
  case atStart => exact ⟨rfl, 0, Nat.zero_le _, rfl, rfl⟩
  case round =>
    obtain ⟨rfl, k, hk, rfl, hall⟩ := hrel
    have HALL := Lib.hid hall
    clear hall
    by_cases hlt : k < s.size
    · have next : Hid (okChar s[k] = true → (s.data.toList.take (k + 1)).all okChar = true) := fun h => by rw [take_snoc s k hlt, List.all_append, HALL.out]; simp [h]
      have stop : Hid (okChar s[k] = false → may s.data.toList = false) := may_no hlt
      have hc := okChar_nat s[k]
      have HOK := Lib.hid hc
      clear hc
      go_wp2_with fail
      all_goals first
        | (go_roundw
           case rel => exact ⟨by trivial, k + 1, by omega, by go_num, next.out (by rw [HOK.out, decide_eq_true_eq]; (try simp only [bne_iff_ne, bne_eq_false_iff_eq, ne_eq] at *); omega)⟩
           case measure => simp [intOf]; omega)
        | (go_ret
           exact ⟨ret_bool (stop.out (by rw [HOK.out, decide_eq_false_iff_not]; (try simp only [bne_iff_ne, bne_eq_false_iff_eq, ne_eq] at *); omega)).symm, rfl⟩)
    · have hall : s.data.toList.all okChar = true := by
        have := HALL.out
        rwa [List.take_of_length_le (by simp; omega)] at this
      have HA : Hid (may s.data.toList = (decide (1 ≤ (s.size : Int)) && decide ((s.size : Int) ≤ 80))) := by
        unfold Hid
        have : s.data.toList.length = s.size := by simp
        have he : (!s.data.toList.isEmpty) = decide (1 ≤ (s.size : Int)) := by
          rw [← this]
          cases s.data.toList with
          | nil => rfl
          | cons x r => simp; omega
        simp only [may, hall, Bool.true_and, he]
        congr 1
        rw [decide_eq_decide]
        omega
      clear hall
      go_wp2
      all_goals go_ret
      all_goals exact ⟨ret_bool (by rw [HA.out]; (first | (simp [*]; done) | (simp [*]; omega))), rfl⟩
end Go.Proofs.YtcffickkipicbaaGreatDoor
