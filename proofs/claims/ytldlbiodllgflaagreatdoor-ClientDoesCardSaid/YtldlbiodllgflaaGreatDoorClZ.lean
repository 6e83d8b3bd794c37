/- client: Play. Conditions: the client is one that was made; what Go's variables hold. -/
import Derived.Test.YtldlbiodllgflaaGreatDoorClY
import Derived.Test.YtldlbiodllgflaaGreatDoorClR
set_option linter.unusedSimpArgs false
set_option linter.unusedVariables false
set_option linter.unnecessarySimpa false
namespace Go.Proofs.YtldlbiodllgflaaGreatDoor
open Go.RowKit

theorem rank_lt {C : Cl} (h : C.Ok) (h8 : C.phase ≠ 8) (code : Int) : C.rank < (C.take code).1.rank := by
  obtain ⟨hok, h1, _⟩ := take_goes h code
  rcases h1 with h1 | h1
  · have hl := (take_like C code).len
    have h4 := h.at4
    have := h.ph0
    have := h.ph8
    have := h.n1
    have hr : (C.take code).1.rank = 7 + C.tos.length := by
      unfold Cl.rank
      rw [h1, hl]
      rfl
    rw [hr]
    unfold Cl.rank
    split
    · omega
    · split
      · rename_i h4'
        have := h4 h4'
        omega
      · omega
  · exact h1
theorem rank_le {C : Cl} (h : C.Ok) : C.rank ≤ 17 := by
  have := h.ph0
  have := h.ph8
  have := h.n10
  have := h.atn
  unfold Cl.rank
  split
  · omega
  · split <;> omega
theorem cmSend_len {x : Cm} (h : CmS x) : (lnJoin [(cmWrite x).1]).length ≤ 200000 := by
  have := h.len
  simp [lnJoin]
  omega
theorem take_len {C : Cl} (h : C.Ok) (code : Int) : (C.take code).2.length ≤ 5000000000 := by
  have hb := h.body
  have hq : ∀ D : Cl, D.leave.2.length ≤ 5000000000 := fun D => by
    have := cmSend_len (x := ⟨8, [], ([], []), 0, false⟩) ⟨by simp, by simp, by simp, by decide, by decide⟩
    show (lnJoin [_]).length ≤ _
    omega
  have hf : ∀ (D : Cl) (cls : Int) (p : Rc → Bool), (D.fail cls p).2.length ≤ 5000000000 := fun D cls p => hq _
  have hg : ∀ (v ph : Int), (C.greet v ph).2.length ≤ 5000000000 := fun v ph => by
    have := cmSend_len (x := ⟨v, C.host, ([], []), 0, false⟩) ⟨by have := h.host; show C.host.length ≤ _; omega, by simp, by simp, (show (-9223372036854775808 : Int) ≤ 0 by decide), (show (0 : Int) ≤ 9223372036854775807 by decide)⟩
    show (lnJoin [_]).length ≤ _
    omega
  have hm : ∀ z : Int, -1 ≤ z → z ≤ 5000 → (C.mail z).2.length ≤ 5000000000 := fun z h1 h2 => by
    have := cmSend_len (x := ⟨3, [], C.from_, z, false⟩) ⟨by simp, by have := h.fl; show C.from_.1.length ≤ _; omega, by have := h.fd; show C.from_.2.length ≤ _; omega, by show _ ≤ z; omega, by show z ≤ _; omega⟩
    show (lnJoin [_]).length ≤ _
    omega
  have hn : ∀ D : Cl, (∀ r ∈ D.tos, r.box.1.length ≤ 300 ∧ r.box.2.length ≤ 300) → D.name.2.length ≤ 5000000000 := fun D hd => by
    unfold Cl.name
    split
    · rename_i r hr
      have hx := hd r (List.mem_of_getElem? hr)
      have := cmSend_len (x := ⟨4, [], r.box, 0, false⟩) ⟨by simp, by show r.box.1.length ≤ _; omega, by show r.box.2.length ≤ _; omega, (show (-9223372036854775808 : Int) ≤ 0 by decide), (show (0 : Int) ≤ 9223372036854775807 by decide)⟩
      show (lnJoin [_]).length ≤ _
      omega
    · split
      · have := cmSend_len (x := ⟨5, [], ([], []), 0, false⟩) ⟨by simp, by simp, by simp, by decide, by decide⟩
        show (lnJoin [_]).length ≤ _
        omega
      · exact hq _
  unfold Cl.take
  split
  · exact hn _ fun r hr => by
      obtain ⟨r0, h0, e⟩ := (modify_like C (classC code) (C.at_ + 1)).box r hr
      rw [e]
      exact h.bx r0 h0
  split
  · split
    · have h1 := lnSplit_fit (s := C.body) (by omega)
      have h2 := lnStuf0_len (lnSplit C.body).1 h1.2
      have h3 : (lnSplit C.body).1.length ≤ 4100 := by
        have hsf := split_facts C.body crlf
        unfold lnSplit
        rw [List.length_dropLast]
        omega
      show (lnStuff _).length ≤ _
      rw [lnStuff_eq, List.length_append]
      have h4 : (lnSplit C.body).1.length * 1000003 ≤ 4100 * 1000003 := Nat.mul_le_mul_right _ h3
      simp
      omega
    · exact hf _ _ _
  split
  · exact hf _ _ _
  split
  · simp
  · unfold Cl.opening
    split
    · exact hg _ _
    split
    · exact hm _ (by omega) (by omega)
    split
    · exact hg _ _
    split
    · exact hq _
    split
    · exact hm _ (by decide) (by decide)
    split
    · exact hn _ h.bx
    · exact hf _ _ _
theorem lnJoin_one_ne (x : Bs) : lnJoin [x] ≠ [] := by simp [lnJoin]
/-- The first reply is answered by something. -/
theorem take_says {C : Cl} (_h : C.Ok) (h0 : C.phase = 0) (code : Int) : (C.take code).2 ≠ [] := by
  have hq : ∀ D : Cl, D.leave.2 ≠ [] := fun D => lnJoin_one_ne _
  unfold Cl.take
  rw [if_neg (by omega), if_neg (by omega), if_neg (by omega), if_neg (by omega)]
  unfold Cl.opening
  split
  · exact lnJoin_one_ne _
  rw [if_neg (by omega), if_neg (by omega), if_neg (by omega), if_neg (by omega), if_neg (by omega)]
  exact hq _
/-- A slice value that holds numbers, only read. -/
def IxAt (w : World) (v : Value) (l : List Int) : Prop := ∃ a cap, v = .slice a l.length cap ∧ (l = [] ∨ ∃ b off, a = some ⟨b, off, none⟩ ∧ ∀ i, (h : i < l.length) → w.cell? ⟨b, off + i, none⟩ = some (.int .i64 l[i]))
theorem IxAt.ext {w w2 : World} {v : Value} {l : List Int} (h : IxAt w v l) (hx : Ext [] w w2) : IxAt w2 v l := by
  obtain ⟨a, cap, h1, h2⟩ := h
  refine ⟨a, cap, h1, ?_⟩
  rcases h2 with h2 | ⟨b, off, h2, h3⟩
  · exact .inl h2
  · exact .inr ⟨b, off, h2, fun i hi => hx.cell (h3 i hi) (by simp)⟩
theorem IxAt.form {w : World} {v : Value} {l : List Int} (h : IxAt w v l) : ∃ a cap, v = .slice a l.length cap := by
  obtain ⟨a, cap, h1, _⟩ := h
  exact ⟨a, cap, h1⟩
theorem IxAt.at {w : World} {a : Option Addr} {n cap : Nat} {l : List Int} (h : IxAt w (.slice a n cap) l) {i : Nat} (hi : i < l.length) : ∃ b off, a = some ⟨b, off, none⟩ ∧ w.cell? ⟨b, off + i, none⟩ = some (.int .i64 l[i]) := by
  obtain ⟨a2, cap2, h1, h2⟩ := h
  cases h1
  rcases h2 with rfl | ⟨b, off, rfl, h3⟩
  · cases hi
  · exact ⟨b, off, rfl, h3 i hi⟩
section
variable {w0 w : World} {L : List Res} {F0 : List Nat} {p b : Nat} {v : Value} {C : Cl}
theorem clTakeB (code : Int) (hc1 : -9223372036854775808 ≤ code) (hc2 : code ≤ 9223372036854775807) (K : C.Ok) {B : Res} (S : Sp w0 [] w (B :: clR p C v L)) (E : Env w0) : Calls Tryz.prog 12 #[.pointer (some ⟨p, 0, none⟩), .int .i64 code] w fun e w2 => e = .returned (.string ⟨(C.take code).2.toArray⟩) ∧ Sp w0 [] w2 (B :: clR p (C.take code).1 v L) :=
  (clTakeS (L := B :: L) code hc1 hc2 K ((Sp.pick [_, _, _] [1, 2, 0] (by decide) (S))) E).mono fun e w2 h => ⟨h.1, (Sp.pick [_, _, _] [2, 0, 1] (by decide) (h.2))⟩
set_option maxRecDepth 100000 in
set_option maxHeartbeats 4000000 in
theorem clPlayS (cv : Value) (codes : List Int) (hcd : ∀ c ∈ codes, -9223372036854775808 ≤ c ∧ c ≤ 9223372036854775807) (hcl : codes.length ≤ 9223372036854775807) (K : C.Ok) (h0 : C.phase = 0) (T : ∀ wx, Sp w0 [] wx L → IxAt wx cv codes) (S : Sp w0 [] w (clR p C v L)) (E : Env w0) :
    Calls Tryz.prog 18 #[.pointer (some ⟨p, 0, none⟩), cv] w fun e w2 => e = .returned (.string ⟨(C.play codes).2.toArray⟩) ∧ Sp w0 [] w2 (clR p (C.play codes).1 v L) := by
  have HE := Lib.hid E
  have HCD := Lib.hid hcd
  have HT := Lib.hid T
  obtain ⟨a, cap, rfl⟩ := (T w S.drop.drop).form
  have hln : (codes.length : Int) ≤ 9223372036854775807 := by omega
  have HSB := Lib.hid (S.box #[.pointer none, .slice none 0 0] 86)
  have HS0 := Lib.hid (S.bldNew 86)
  have HK := Lib.hid K
  clear S T E hcd hcl K
  by_cases hcn : codes = []
  · subst hcn
    have HV : Hid (C.play [] = ({ C with phase := 8 }, [])) := rfl
    go_enter Tryz.func18, Tryz.ntmps18
    go_wp2_with fail
    generalize w.heap.size = q at *
    go_loopw [13] (fun i wr => i = .int .i64 0 ∧ Sp w0 [] wr (boxR q #[.pointer none, .slice none 0 0] 86 :: clR p C v L)) (fun i _ => 0)
    case atStart => exact ⟨rfl, HSB.out⟩
    case round =>
      clear HS0 HSB
      obtain ⟨rfl, S⟩ := hrel
      have HS := Lib.hid S
      clear S
      go_wp2_with fail
      refine (clLoseS (C := C) ((Sp.pick [_, _, _] [1, 0, 2] (by decide) (HS.out)))).mono ?_
      rintro e w2 ⟨rfl, S⟩
      have HS2 := Lib.hid ((Sp.pick [_, _, _] [1, 0, 2] (by decide) (S)))
      clear S HS
      go_wp2_with fail
      refine (Any.Builder_String_nil Tryz.lays169 Tryz.Builder_Extra_169 w2.heap.size q (.pointer none) w2 HS2.out.boxed).mono ?_
      rintro e w3 ⟨rfl, hb⟩
      have HS3 := Lib.hid (HS2.out.ext0 (Ext.of_below hb)).drop
      clear hb HS2
      go_wp2
      go_ret
      rw [HV.out]
      exact ⟨rfl, HS3.out⟩
  have HCP : Hid (0 < codes.length) := List.length_pos_iff.2 hcn
  have HP0 := Lib.hid h0
  clear hcn HSB h0
  go_enter Tryz.func18, Tryz.ntmps18
  go_wp2_with fail
  generalize w.heap.size = q at *
  go_loopw [13] (fun i wr => ∃ (k : Nat) (D : Cl) (out : Bs), i = .int .i64 k ∧ k ≤ codes.length ∧ D.Ok ∧ ((k = 0 ∧ D = C) ∨ out ≠ []) ∧ out.length ≤ D.rank * 5000000000 ∧ C.play codes = ((D.play (codes.drop k)).1, out ++ (D.play (codes.drop k)).2) ∧ Sp w0 [] wr (bldW 86 q out :: clR p D v L)) (fun i _ => codes.length - (intOf i).toNat)
  case atStart => exact ⟨0, C, [], rfl, Nat.zero_le _, HK.out, .inl ⟨rfl, rfl⟩, by simp, by simp, HS0.out⟩
  case round =>
    clear HS0
    obtain ⟨k, D, out, rfl, hk, hok, hne, hout, hpl, S⟩ := hrel
    have HS := Lib.hid S
    have HOK := Lib.hid hok
    have HOUT := Lib.hid hout
    have HPL := Lib.hid hpl
    have HNE := Lib.hid hne
    have HT1 := Lib.hid (HT.out wr S.drop.drop.drop)
    clear S hok hout hpl hne
    by_cases hlt : k < codes.length
    · have hlt' : (k : Int) < codes.length := by omega
      obtain ⟨b, off, rfl, k0⟩ := HT1.out.at hlt
      have HCB := Lib.hid (HCD.out _ (List.getElem_mem hlt))
      have HDR : Hid (codes.drop k = codes[k] :: codes.drop (k + 1)) := List.drop_eq_getElem_cons hlt
      rw [HDR.out] at HPL
      generalize codes[k] = c at *
      go_wp2_with fail
      refine (clOver_any (C := D) ((Sp.pick [_, _, _] [1, 0, 2] (by decide) (HS.out)))).mono ?_
      cases h8 : D.phase == 8 with
      | true =>
        have h8' : D.phase = 8 := by simpa using h8
        have HV : Hid (C.play codes = ({ D with phase := 8 }, out)) := by
          unfold Hid
          rw [HPL.out]
          show ((Cl.play D (c :: codes.drop (k + 1))).1, out ++ (Cl.play D (c :: codes.drop (k + 1))).2) = _
          unfold Cl.play
          rw [if_pos h8', List.append_nil]
        have HON : Hid (out ≠ []) := by
          rcases HNE.out with ⟨_, rfl⟩ | h
          · rw [HP0.out] at h8'; exact absurd h8' (by decide)
          · exact h
        clear h8 h8'
        rintro e wq ⟨rfl, rfl⟩
        clear k0
        go_wp2_with fail
        refine (clLoseS (C := D) ((Sp.pick [_, _, _] [1, 0, 2] (by decide) (HS.out)))).mono ?_
        rintro e w2 ⟨rfl, S⟩
        have HS2 := Lib.hid ((Sp.pick [_, _, _] [1, 0, 2] (by decide) (S)))
        clear S HS
        go_wp2_with fail
        refine (stringS HS2.out HON.out).mono ?_
        rintro e w3 ⟨rfl, S⟩
        have HS3 := Lib.hid S
        clear S HS2
        go_wp2
        go_ret
        rw [HV.out]
        exact ⟨rfl, HS3.out⟩
      | false =>
        have h8' : ¬ D.phase = 8 := by simpa using h8
        have HRL := Lib.hid (rank_lt HOK.out h8' c)
        have HOK2 := Lib.hid (take_goes HOK.out c).1
        have HLEN := Lib.hid (take_len HOK.out c)
        have HRK := Lib.hid (rank_le HOK.out)
        have HPL2 : Hid (C.play codes = (((D.take c).1.play (codes.drop (k + 1))).1, (out ++ (D.take c).2) ++ ((D.take c).1.play (codes.drop (k + 1))).2)) := by
          unfold Hid
          rw [HPL.out]
          show ((Cl.play D (c :: codes.drop (k + 1))).1, out ++ (Cl.play D (c :: codes.drop (k + 1))).2) = _
          conv => lhs; unfold Cl.play
          rw [if_neg h8', List.append_assoc]
        have HON : Hid (out ++ (D.take c).2 ≠ []) := by
          rcases HNE.out with ⟨_, rfl⟩ | h
          · have := take_says HOK.out HP0.out c
            intro e
            exact this (List.append_eq_nil_iff.1 e).2
          · exact fun e => h (List.append_eq_nil_iff.1 e).1
        clear h8 h8'
        rintro e wq ⟨rfl, rfl⟩
        have HTK := Lib.hid (clTakeB (C := D) c HCB.out.1 HCB.out.2 HOK.out HS.out HE.out)
        clear HPL
        generalize hq : D.take c = t at *
        have HQ := Lib.hid hq
        clear hq
        obtain ⟨D2, s⟩ := t
        dsimp only at *
        go_wp2_with fail
        refine HTK.out.mono ?_
        rintro e w3 ⟨rfl, S⟩
        have HS3 := Lib.hid S
        clear S k0 HTK
        go_wp2_with fail
        refine (writeStrS s HS3.out (by have := HOUT.out; have := HRK.out; have := HLEN.out; have h2 : D.rank * 5000000000 ≤ 17 * 5000000000 := Nat.mul_le_mul_right _ HRK.out; omega)).mono ?_
        rintro e w4 ⟨rfl, S⟩
        have HS4 := Lib.hid S
        clear S HS3
        go_wp2
        go_roundw
        case rel => exact ⟨k + 1, D2, out ++ s, by go_num, by omega, HOK2.out, .inr HON.out, by
          have h1 := HOUT.out
          have h2 := HLEN.out
          have h3 : (D.rank + 1) * 5000000000 ≤ D2.rank * 5000000000 := Nat.mul_le_mul_right _ HRL.out
          rw [List.length_append]
          omega, HPL2.out, HS4.out⟩
        case measure => simp [intOf]; omega
    · obtain rfl : k = codes.length := by omega
      have HV : Hid (C.play codes = ({ D with phase := 8 }, out)) := by
        unfold Hid
        rw [HPL.out, List.drop_of_length_le (Nat.le_refl _)]
        show ({ D with phase := 8 }, out ++ []) = _
        rw [List.append_nil]
      have HON : Hid (out ≠ []) := by
        rcases HNE.out with ⟨h, _⟩ | h
        · have := HCP.out; omega
        · exact h
      go_wp2_with fail
      refine (clLoseS (C := D) ((Sp.pick [_, _, _] [1, 0, 2] (by decide) (HS.out)))).mono ?_
      rintro e w2 ⟨rfl, S⟩
      have HS2 := Lib.hid ((Sp.pick [_, _, _] [1, 0, 2] (by decide) (S)))
      clear S HS
      go_wp2_with fail
      refine (stringS HS2.out HON.out).mono ?_
      rintro e w3 ⟨rfl, S⟩
      have HS3 := Lib.hid S
      clear S HS2
      go_wp2
      go_ret
      rw [HV.out]
      exact ⟨rfl, HS3.out⟩
end
end Go.Proofs.YtldlbiodllgflaaGreatDoor
