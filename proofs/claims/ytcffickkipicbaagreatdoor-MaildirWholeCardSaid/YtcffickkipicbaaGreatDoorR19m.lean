/- posthornref10.Num, posthornref19.Name, digits. Conditions: the numbers fit. posthornref19.Name. No condition. posthornref19.digits. Condition: the text's length fits. posthornref19.Parse, plainly. No program. posthornref19.Parse, walked. Condition: the text's length fits. The document's mailboxes over its disk: has, Has, Deliver, Recover. Conditions: the lengths fit. The document's mailboxes over its disk: Recover. Conditions: the lengths fit. The document's mailboxes over its disk: List: sorted insertion, plainly; the walk. Printed by prml.py. Conditions: the lengths fit. -/
import Derived.Test.YtcffickkipicbaaGreatDoorMdW
import Derived.Deep.RegionWith
import Derived.Test.YtcffickkipicbaaGreatDoorRDk3
import Derived.Test.YtcffickkipicbaaGreatDoorTxR
/-! R19 -/
set_option linter.unusedSimpArgs false
set_option linter.unusedVariables false
set_option linter.unnecessarySimpa false
namespace Go.Proofs.YtcffickkipicbaaGreatDoor
open Go.RowKit Go.Sort Go.Maps
open Go.Lib (decDigits)

theorem Ext.old {a w : World} (h : Ext [] a w) : ∀ b o, b < a.heap.size → w.cell? ⟨b, o, none⟩ = a.cell? ⟨b, o, none⟩ := fun b o hb => World.cell?_of_block (h.block b hb (by simp))
theorem conv_one (W : World) (b : Nat) (c : UInt8) (h : W.cell? ⟨b, 0, none⟩ = some (.int .u8 (c.toNat : Int))) : (convert 99 9 (.slice (some ⟨b, 0, none⟩) 1 1)).run Tryz.prog W = .ok (.string ⟨[c].toArray⟩) W :=
  run_convert_bytes_back (P := Tryz.prog) W 99 9 5 ⟨b, 0, none⟩ 1 [c] Tryz.underlying99 Tryz.underlying5 Tryz.underlying9 (fun j hj => by
    obtain rfl : j = 0 := by simpa using hj
    exact h)
theorem dec_len (n : Nat) (h : n ≤ 9223372036854775807) : (decDigits n).length ≤ 30 := by
  have := decDigits_len (n := n) (k := 19) (by decide) (by omega)
  omega
set_option maxRecDepth 100000 in
set_option maxHeartbeats 4000000 in
theorem r10Num_any (n : Nat) : ∀ (w : World), n ≤ 9223372036854775807 →
    Calls Tryz.prog 44 #[.int .i64 n] w fun e w2 => e = .returned (.string ⟨(decDigits n).toArray⟩) ∧ Ext [] w w2 := by
  induction n using Nat.strongRecOn with
  | _ n ih =>
    intro w hn
    have hcv : ∀ (k : Nat), k < 10 → ∀ (W : World) (b : Nat), W.cell? ⟨b, 0, none⟩ = some (.int .u8 (48 + k : Int)) → (convert 99 9 (.slice (some ⟨b, 0, none⟩) 1 1)).run Tryz.prog W = .ok (.string ⟨[UInt8.ofNat (48 + k)].toArray⟩) W := fun k hk W b h => conv_one W b _ (by rw [h]; congr 2; simp; omega)
    by_cases h10 : n < 10
    · have h10' : (n : Int) < 10 := by omega
      have hcv := hcv n h10
      have HD : Hid (decDigits n = [UInt8.ofNat (48 + n)]) := by rw [decDigits, dif_pos h10]; exact Eq.refl _
      have hwr : IntKind.u8.wrap (48 + n : Int) = (48 + n : Int) := by rw [IntKind.wrap_u8]; omega
      generalize UInt8.ofNat (48 + n) = cc at *
      clear ih h10 hn
      go_enter Tryz.func44, Tryz.ntmps44
      go_wp2
      go_ret
      rw [HD.out]
      exact ⟨rfl, (Ext.refl [] w).alloc _⟩
    · have h10' : ¬ (n : Int) < 10 := by omega
      have IH := Lib.hid (ih (n / 10) (by omega))
      have HN : Hid (n / 10 ≤ 9223372036854775807) := by unfold Hid; omega
      have HD : Hid (decDigits n = decDigits (n / 10) ++ [UInt8.ofNat (48 + n % 10)]) := by rw [decDigits, dif_neg h10]; exact Eq.refl _
      have hdl := dec_len (n / 10) (by omega)
      have hadd := add_str (decDigits (n / 10)) [UInt8.ofNat (48 + n % 10)] (by simp [maxLen]; omega)
      have hdiv : (n : Int).tdiv 10 = ((n / 10 : Nat) : Int) := by simp [Int.tdiv]
      have hmod : (n : Int).tmod 10 = ((n % 10 : Nat) : Int) := by simp [Int.tmod]
      have hcv := hcv (n % 10) (by omega)
      have hm10 : n % 10 < 10 := by omega
      have hm10' : ((n % 10 : Nat) : Int) < 10 := by omega
      have hwr : IntKind.u8.wrap (48 + (n % 10 : Nat) : Int) = (48 + (n % 10 : Nat) : Int) := by rw [IntKind.wrap_u8]; omega
      generalize UInt8.ofNat (48 + n % 10) = cc at *
      clear ih h10 hn hdl
      generalize n / 10 = q at *
      generalize n % 10 = r at *
      have hw1 : IntKind.i64.wrap (48 + (r : Int)) = 48 + (r : Int) := IntWalk.i64_in _ (by omega)
      have hw2 : IntKind.i64.wrap (q : Int) = (q : Int) := IntWalk.i64_in _ (by have := HN.out; omega)
      have hw3 : IntKind.i64.wrap (r : Int) = (r : Int) := IntWalk.i64_in _ (by omega)
      go_enter Tryz.func44, Tryz.ntmps44
      go_wp2
      go_region_with (first | (go_at_call 44; refine (IH.out _ HN.out).mono ?_; rintro e w2 ⟨rfl, hx⟩; have hcx := hx.old))
      all_goals
        have HX := Lib.hid hx
        clear hx hcx hcv hwr hadd hw1 hw2 hw3
        go_wp2
        go_ret
        refine ⟨by rw [HD.out]; rfl, ?_⟩
        first
          | exact ((Ext.refl [] w).drew).trans HX.out (by simp)
          | exact (((Ext.refl [] w).drew).trans HX.out (by simp)).alloc _
          | exact (((Ext.refl [] w).alloc _).drew).trans HX.out (by simp)
end Go.Proofs.YtcffickkipicbaaGreatDoor

/-! R19n -/
namespace Go.Proofs.YtcffickkipicbaaGreatDoor
open Go.RowKit Go.Sort

set_option maxRecDepth 100000 in
theorem r19Name_no1 (box : Int) (id : Nat) (rc : Int) (w : World) (h : box < 0) :
    Calls Tryz.prog 11 #[.int .i64 box, .int .u64 id, .int .i64 rc] w fun e w2 => e = .returned (.tuple #[.string ⟨#[]⟩, .int .i64 3]) ∧ w = w2 := by
  go_enter Tryz.func11, Tryz.ntmps11
  go_wp2
  go_ret2
  exact ⟨rfl, rfl⟩
set_option maxRecDepth 100000 in
theorem r19Name_no2 (box : Int) (id : Nat) (rc : Int) (w : World) (h0 : 0 ≤ box) (h : 99 < box) :
    Calls Tryz.prog 11 #[.int .i64 box, .int .u64 id, .int .i64 rc] w fun e w2 => e = .returned (.tuple #[.string ⟨#[]⟩, .int .i64 3]) ∧ w = w2 := by
  go_enter Tryz.func11, Tryz.ntmps11
  go_wp2
  go_ret2
  exact ⟨rfl, rfl⟩
set_option maxRecDepth 100000 in
theorem r19Name_no3 (box : Int) (id : Nat) (rc : Int) (w : World) (h0 : 0 ≤ box) (h1 : box ≤ 99) (h : id < 1) :
    Calls Tryz.prog 11 #[.int .i64 box, .int .u64 id, .int .i64 rc] w fun e w2 => e = .returned (.tuple #[.string ⟨#[]⟩, .int .i64 3]) ∧ w = w2 := by
  have h' : (id : Int) < 1 := by omega
  go_enter Tryz.func11, Tryz.ntmps11
  go_wp2
  go_ret2
  exact ⟨rfl, rfl⟩
set_option maxRecDepth 100000 in
theorem r19Name_no4 (box : Int) (id : Nat) (rc : Int) (w : World) (h0 : 0 ≤ box) (h1 : box ≤ 99) (_h2 : 1 ≤ id) (h : 1099511627776 < id) :
    Calls Tryz.prog 11 #[.int .i64 box, .int .u64 id, .int .i64 rc] w fun e w2 => e = .returned (.tuple #[.string ⟨#[]⟩, .int .i64 3]) ∧ w = w2 := by
  have h2' : (1 : Int) ≤ id := by omega
  have h' : (1099511627776 : Int) < id := by omega
  go_enter Tryz.func11, Tryz.ntmps11
  go_wp2
  go_ret2
  exact ⟨rfl, rfl⟩
set_option maxRecDepth 100000 in
theorem r19Name_no5 (box : Int) (id : Nat) (rc : Int) (w : World) (h0 : 0 ≤ box) (h1 : box ≤ 99) (h2 : 1 ≤ id) (h3 : id ≤ 1099511627776) (h : rc < 0) :
    Calls Tryz.prog 11 #[.int .i64 box, .int .u64 id, .int .i64 rc] w fun e w2 => e = .returned (.tuple #[.string ⟨#[]⟩, .int .i64 3]) ∧ w = w2 := by
  have h2' : (1 : Int) ≤ id := by omega
  have h3' : (id : Int) ≤ 1099511627776 := by omega
  go_enter Tryz.func11, Tryz.ntmps11
  go_wp2
  go_ret2
  exact ⟨rfl, rfl⟩
set_option maxRecDepth 100000 in
theorem r19Name_no6 (box : Int) (id : Nat) (rc : Int) (w : World) (h0 : 0 ≤ box) (h1 : box ≤ 99) (h2 : 1 ≤ id) (h3 : id ≤ 1099511627776) (h4 : 0 ≤ rc) (h : 9 < rc) :
    Calls Tryz.prog 11 #[.int .i64 box, .int .u64 id, .int .i64 rc] w fun e w2 => e = .returned (.tuple #[.string ⟨#[]⟩, .int .i64 3]) ∧ w = w2 := by
  have h2' : (1 : Int) ≤ id := by omega
  have h3' : (id : Int) ≤ 1099511627776 := by omega
  go_enter Tryz.func11, Tryz.ntmps11
  go_wp2
  go_ret2
  exact ⟨rfl, rfl⟩
set_option maxRecDepth 100000 in
set_option maxHeartbeats 1000000 in
theorem r19Name_yes (box id rc : Nat) (w : World) (h : mdOk box id rc) :
    Calls Tryz.prog 11 #[.int .i64 box, .int .u64 id, .int .i64 rc] w fun e w2 => e = .returned (.tuple #[.string ⟨(nameB box id rc).toArray⟩, .int .i64 0]) ∧ Ext [] w w2 := by
  have HN : Hid (nameB box id rc = Lib.decDigits box ++ 47 :: (Lib.decDigits id ++ 46 :: Lib.decDigits rc)) := by simp [nameB, Hid]
  obtain ⟨h0, h1, h2, h3, h4, h5⟩ := h
  have l1 := decDigits_len (n := box) (k := 2) (by decide) (by omega)
  have l2 := decDigits_len (n := id) (k := 13) (by decide) (by omega)
  have l3 := decDigits_len (n := rc) (k := 1) (by decide) (by omega)
  have hI1 : (1 : Int) ≤ id := by omega
  have hI2 : (id : Int) ≤ 1099511627776 := by omega
  have HB := Lib.hid (fun (w : World) => r10Num_any box w (by omega))
  have HF := Lib.hid (fun (w : World) => r10Num_any id w (by omega))
  have HT := Lib.hid (fun (w : World) => r10Num_any rc w (by omega))
  have hcw : IntKind.i64.wrap (id : Int) = (id : Int) := IntWalk.i64_in _ (by omega)
  generalize Lib.decDigits box = A at *
  generalize Lib.decDigits id = B at *
  generalize Lib.decDigits rc = C at *
  have a1 := add_str A [47] (by simp [maxLen]; omega)
  have a2 := add_str (A ++ [47]) B (by simp [maxLen]; omega)
  have a3 := add_str (A ++ 47 :: B) [46] (by simp [maxLen]; omega)
  have a4 := add_str (A ++ 47 :: (B ++ [46])) C (by simp [maxLen]; omega)
  clear l1 l2 l3 h2 h3
  go_enter Tryz.func11, Tryz.ntmps11
  go_wp2_with fail
  refine (HB.out _).mono ?_
  rintro e w1 ⟨rfl, hx1⟩
  have HX1 := Lib.hid hx1
  clear hx1
  go_wp2_with fail
  refine (HF.out _).mono ?_
  rintro e w2 ⟨rfl, hx2⟩
  have HX2 := Lib.hid hx2
  clear hx2
  go_wp2_with fail
  refine (HT.out _).mono ?_
  rintro e w3 ⟨rfl, hx3⟩
  have HX3 := Lib.hid hx3
  clear hx3
  go_wp2
  go_ret2
  rw [HN.out]
  exact ⟨rfl, (HX1.out.trans HX2.out (by simp)).trans HX3.out (by simp)⟩
theorem r19Name_any (box : Int) (id : Nat) (rc : Int) (w : World) :
    Calls Tryz.prog 11 #[.int .i64 box, .int .u64 id, .int .i64 rc] w fun e w2 => e = .returned (.tuple #[.string ⟨(mdName box id rc).1.toArray⟩, .int .i64 (mdName box id rc).2]) ∧ Ext [] w w2 := by
  by_cases h : mdOk box id rc
  · have h' := h
    obtain ⟨h0, h1, h2, h3, h4, h5⟩ := h'
    obtain ⟨b, rfl⟩ : ∃ b : Nat, box = b := ⟨box.toNat, by omega⟩
    obtain ⟨t, rfl⟩ : ∃ t : Nat, rc = t := ⟨rc.toNat, by omega⟩
    unfold mdName
    rw [if_pos h]
    exact r19Name_yes b id t w h
  · have hq : ∀ {e : Ending} {w2 : World}, (e = .returned (.tuple #[.string ⟨#[]⟩, .int .i64 3]) ∧ w = w2) → (e = .returned (.tuple #[.string ⟨(mdName box id rc).1.toArray⟩, .int .i64 (mdName box id rc).2]) ∧ Ext [] w w2) := fun {e w2} ⟨he, hw⟩ => by
      subst hw
      refine ⟨?_, Ext.refl _ _⟩
      rw [he]
      unfold mdName
      rw [if_neg h]
    by_cases c1 : box < 0
    · exact (r19Name_no1 box id rc w c1).mono fun _ _ h => hq h
    by_cases c2 : 99 < box
    · exact (r19Name_no2 box id rc w (by omega) c2).mono fun _ _ h => hq h
    by_cases c3 : id < 1
    · exact (r19Name_no3 box id rc w (by omega) (by omega) c3).mono fun _ _ h => hq h
    by_cases c4 : 1099511627776 < id
    · exact (r19Name_no4 box id rc w (by omega) (by omega) (by omega) c4).mono fun _ _ h => hq h
    by_cases c5 : rc < 0
    · exact (r19Name_no5 box id rc w (by omega) (by omega) (by omega) (by omega) c5).mono fun _ _ h => hq h
    by_cases c6 : 9 < rc
    · exact (r19Name_no6 box id rc w (by omega) (by omega) (by omega) (by omega) (by omega) c6).mono fun _ _ h => hq h
    · exact absurd ⟨by omega, by omega, by omega, by omega, by omega, by omega⟩ h
end Go.Proofs.YtcffickkipicbaaGreatDoor

/-! R19d -/
namespace Go.Proofs.YtcffickkipicbaaGreatDoor
open Go.RowKit Go.Sort Go.Maps

def digV (s : Bs) : Nat := s.foldl (fun a c => a * 10 + (c.toNat - 48)) 0
def r19Dig (s : Bs) : Int := if s.all digB = true ∧ s.length ≤ 14 then (digV s : Int) else -1
theorem digV_snoc (s : Bs) (c : UInt8) : digV (s ++ [c]) = digV s * 10 + (c.toNat - 48) := by simp [digV]
theorem digB_iff (c : UInt8) : digB c = true ↔ 48 ≤ c.toNat ∧ c.toNat ≤ 57 := by simp [digB]
theorem digV_lt : ∀ (n : Nat) (s : Bs), s.length = n → s.all digB = true → digV s < 10 ^ n
  | 0, s, h, _ => by rw [List.eq_nil_of_length_eq_zero h]; decide
  | n + 1, s, h, ha => by
    rcases List.eq_nil_or_concat s with rfl | ⟨t, c, rfl⟩
    · simp at h
    · rw [List.concat_eq_append] at *
      rw [List.all_append, Bool.and_eq_true] at ha
      have h1 := digV_lt n t (by simpa using h) ha.1
      have h2 := (digB_iff c).1 (by simpa using ha.2)
      rw [digV_snoc, Nat.pow_succ]
      omega
theorem r19Dig_no {s : Bs} (h : s.all digB = false ∨ 14 < s.length) : r19Dig s = -1 := by
  unfold r19Dig
  rw [if_neg]
  rintro ⟨h1, h2⟩
  rcases h with h | h
  · rw [h1] at h; cases h
  · omega
set_option maxRecDepth 100000 in
set_option maxHeartbeats 2000000 in
theorem r19Dig_bytes (s : ByteArray) (w : World) (hs : s.size ≤ 1000000) :
    Calls Tryz.prog 47 #[.string s] w fun e w2 => e = .returned (.int .i64 (r19Dig s.data.toList)) ∧ w = w2 := by
  go_enter Tryz.func47, Tryz.ntmps47
  go_wp2
  go_loop [3, 4] (fun n i => ∃ k : Nat, k ≤ s.size ∧ k ≤ 14 ∧ i = .int .i64 k ∧ n = .int .i64 (digV (s.data.toList.take k)) ∧ (s.data.toList.take k).all digB = true) (fun _ i => s.size - (intOf i).toNat)
  case atStart => exact ⟨0, Nat.zero_le _, by decide, rfl, rfl, rfl⟩
  case round =>
    obtain ⟨k, hk, hk14, rfl, rfl, hall⟩ := hrel
    have hlen : s.data.toList.length = s.size := by simp
    by_cases hlt : k < s.size
    · have htk := take_snoc s k hlt
      by_cases hd : digB s[k] = true ∧ k ≤ 13
      · obtain ⟨hd1, hd2⟩ := (digB_iff _).1 hd.1
        have hv := digV_lt k _ (by rw [List.length_take]; omega) hall
        have hv14 : digV (s.data.toList.take k) < 10 ^ 13 := Nat.lt_of_lt_of_le hv (Nat.pow_le_pow_right (by decide) hd.2)
        have hvI : (digV (s.data.toList.take k) : Int) ≤ 10000000000000 := by omega
        have hv0 : (0 : Int) ≤ (digV (s.data.toList.take k) : Int) := by omega
        have HN : Hid ((digV (s.data.toList.take (k + 1)) : Int) = (digV (s.data.toList.take k) : Int) * 10 + ((s[k].toNat : Int) - 48) ∧ (s.data.toList.take (k + 1)).all digB = true) := by
          rw [htk]
          refine ⟨?_, by rw [List.all_append, hall]; simpa using hd.1⟩
          rw [digV_snoc]
          omega
        have hk13 : (k : Int) ≤ 13 := by omega
        have hd1' : (48 : Int) ≤ s[k].toNat := by omega
        have hd2' : (s[k].toNat : Int) ≤ 57 := by omega
        clear hv hv14 hall htk hd hlen hd1 hd2
        generalize digV (s.data.toList.take k) = v at *
        go_wp2
        refine ⟨⟨k + 1, by omega, by omega, by go_num, ?_, HN.out.2⟩, by simp [intOf]; omega⟩
        rw [HN.out.1]
      · have HNO : Hid (r19Dig s.data.toList = -1) := by
          refine r19Dig_no ?_
          by_cases h1 : digB s[k] = true
          · right; rw [hlen]; have : ¬ k ≤ 13 := fun h => hd ⟨h1, h⟩; omega
          · left
            rw [← Bool.not_eq_true, List.all_eq_true]
            exact fun h => h1 (h _ (by simp [ByteArray.getElem_eq_getElem_data]))
        have hor : (s[k].toNat : Int) < 48 ∨ (57 : Int) < s[k].toNat ∨ (13 : Int) < k := by
          by_cases h1 : 48 ≤ s[k].toNat ∧ s[k].toNat ≤ 57
          · have : ¬ k ≤ 13 := fun h => hd ⟨(digB_iff _).2 h1, h⟩
            omega
          · omega
        clear hall htk hd hlen
        go_wp2
        all_goals first
          | (go_ret; rw [HNO.out]; exact ⟨rfl, rfl⟩)
          | (exfalso; omega)
    · have HYES : Hid (r19Dig s.data.toList = (digV (s.data.toList.take k) : Int)) := by
        rw [List.take_of_length_le (by omega)] at hall ⊢
        unfold r19Dig
        rw [if_pos ⟨hall, by omega⟩]
        exact Eq.refl _
      clear hall hlen
      go_wp2
      go_ret
      rw [HYES.out]
      exact ⟨rfl, rfl⟩
end Go.Proofs.YtcffickkipicbaaGreatDoor

/-! R19p -/
namespace Go.Proofs.YtcffickkipicbaaGreatDoor
open Go.RowKit Go.Sort Go.Maps
open Go.Lib (decDigits)

theorem digV_dec (n : Nat) : digV (decDigits n) = n := by
  induction n using Nat.strongRecOn with
  | _ n ih =>
    rw [decDigits]
    split
    · rename_i h
      have : (UInt8.ofNat (48 + n)).toNat = 48 + n := by simp; omega
      show 0 * 10 + ((UInt8.ofNat (48 + n)).toNat - 48) = n
      rw [this]; omega
    · rw [digV_snoc, ih (n / 10) (by omega)]
      have : (UInt8.ofNat (48 + n % 10)).toNat = 48 + n % 10 := by simp; omega
      rw [this]; omega
theorem r19Dig_dec {n : Nat} (h : n < 10 ^ 14) : r19Dig (decDigits n) = n := by
  unfold r19Dig
  rw [if_pos ⟨decDigits_dig n, decDigits_len (by decide) h⟩, digV_dec]
/-- The pair i, k of places parts s into a name of three numbers. -/
def hitAt (s : Bs) (i k : Nat) : Prop :=
  i < k ∧ s[i]? = some 47 ∧ s[k]? = some 46 ∧ 0 ≤ r19Dig (s.take i) ∧ 0 ≤ r19Dig ((s.take k).drop (i + 1)) ∧ 0 ≤ r19Dig (s.drop (k + 1)) ∧
  mdName (r19Dig (s.take i)) (r19Dig ((s.take k).drop (i + 1))).toNat (r19Dig (s.drop (k + 1))) = (s, 0)
theorem hit_parse {s : Bs} {i k : Nat} (h : hitAt s i k) : mdParse s = ((r19Dig (s.take i)).toNat, (r19Dig ((s.take k).drop (i + 1))).toNat, (r19Dig (s.drop (k + 1))).toNat, true) := by
  obtain ⟨_, _, _, h1, h2, h3, h4⟩ := h
  generalize r19Dig (s.take i) = a at *
  generalize r19Dig ((s.take k).drop (i + 1)) = b at *
  generalize r19Dig (s.drop (k + 1)) = c at *
  by_cases hok : mdOk a b.toNat c
  · obtain ⟨hk, he⟩ := mdName_ok hok
    rw [he] at h4
    rw [← (Prod.mk.inj h4).1]
    exact mdParse_name hk
  · unfold mdName at h4
    rw [if_neg hok] at h4
    exact absurd (Prod.mk.inj h4).2 (by decide)
theorem hit_of_is {s : Bs} (h : mdIs s = true) : ∃ i k, hitAt s i k := by
  obtain ⟨hok, he⟩ := mdIs_sound h
  generalize (mdRead s).1 = a at *
  generalize (mdRead s).2.1 = b at *
  generalize (mdRead s).2.2 = c at *
  have hok' := hok
  obtain ⟨o1, o2, o3, o4, o5, o6⟩ := hok'
  have e : s = decDigits a ++ 47 :: (decDigits b ++ 46 :: decDigits c) := by rw [he]; simp [nameB]
  have t1 : s.take (decDigits a).length = decDigits a := by rw [e]; simp
  have t2 : (s.take ((decDigits a).length + 1 + (decDigits b).length)).drop ((decDigits a).length + 1) = decDigits b := by
    rw [e, List.drop_take]
    simp
  have t3 : s.drop ((decDigits a).length + 1 + (decDigits b).length + 1) = decDigits c := by
    have e3 : s = (decDigits a ++ 47 :: (decDigits b ++ [46])) ++ decDigits c := by rw [e]; simp
    rw [e3]
    exact List.drop_left' (by simp; omega)
  refine ⟨(decDigits a).length, (decDigits a).length + 1 + (decDigits b).length, by omega, ?_, ?_, ?_⟩
  · rw [e]; simp
  · have e4 : s = (decDigits a ++ 47 :: decDigits b) ++ 46 :: decDigits c := by rw [e]; simp
    have e5 : (decDigits a).length + 1 + (decDigits b).length = (decDigits a ++ 47 :: decDigits b).length := by simp; omega
    rw [e5, e4]
    simp
  · rw [t1, t2, t3, r19Dig_dec (by omega), r19Dig_dec (by omega), r19Dig_dec (by omega)]
    refine ⟨by omega, by omega, by omega, ?_⟩
    unfold mdName
    rw [if_pos (by simpa using hok), he]
    simp
theorem no_hit {s : Bs} (h : ∀ i k, ¬ hitAt s i k) : mdParse s = (0, 0, 0, false) := by
  unfold mdParse
  rw [if_neg fun hi => by obtain ⟨i, k, hh⟩ := hit_of_is hi; exact h i k hh]
end Go.Proofs.YtcffickkipicbaaGreatDoor

/-! R19w -/
namespace Go.Proofs.YtcffickkipicbaaGreatDoor
open Go.RowKit Go.Sort Go.Maps

theorem r19Dig_bd (s : Bs) : -1 ≤ r19Dig s ∧ r19Dig s ≤ 100000000000000 := by
  unfold r19Dig
  split
  · rename_i h
    have h1 := digV_lt s.length s rfl h.1
    have h2 : (10 : Nat) ^ s.length ≤ 10 ^ 14 := Nat.pow_le_pow_right (by decide) h.2
    constructor
    · omega
    · have : digV s < 10 ^ 14 := Nat.lt_of_lt_of_le h1 h2
      have e : (10 : Nat) ^ 14 = 100000000000000 := by decide
      omega
  · omega
def NoHitIn (s : Bs) (i k : Nat) : Prop := ∀ j, j < k → ¬ hitAt s i j
def NoHitTo (s : Bs) (i : Nat) : Prop := ∀ a, a < i → ∀ j, ¬ hitAt s a j
theorem noHit_first (s : Bs) (i : Nat) : NoHitIn s i (i + 1) := fun j hj h => by have := h.1; omega
theorem noHit_next {s : Bs} {i k : Nat} (h : NoHitIn s i k) (hk : ¬ hitAt s i k) : NoHitIn s i (k + 1) := fun j hj => by
  by_cases e : j = k
  · subst e; exact hk
  · exact h j (by omega)
theorem noHit_all {s : Bs} {i : Nat} (h : NoHitTo s i) (hk : ∀ j, ¬ hitAt s i j) : NoHitTo s (i + 1) := fun a ha => by
  by_cases e : a = i
  · subst e; exact hk
  · exact h a (by omega)
theorem noHit_full {s : Bs} {i k : Nat} (h : NoHitIn s i k) (hk : s.length ≤ k) : ∀ j, ¬ hitAt s i j := fun j hj => by
  by_cases e : j < k
  · exact h j e hj
  · have := hj.2.2.1
    rw [List.getElem?_eq_none (by omega)] at this
    cases this
theorem noHit_slash {s : Bs} {i : Nat} (h : s[i]? ≠ some 47) : ∀ j, ¬ hitAt s i j := fun _ hj => h hj.2.1
theorem noHit_end {s : Bs} {i : Nat} (h : NoHitTo s i) (hi : s.length ≤ i) : mdParse s = (0, 0, 0, false) := no_hit fun a k hh => by
  by_cases e : a < i
  · exact h a e k hh
  · have := hh.2.1
    rw [List.getElem?_eq_none (by omega)] at this
    cases this
theorem ext_take (s : ByteArray) (a b : Nat) (hb : b ≤ s.size) (_ha : a ≤ b) : (s.extract a b).data.toList = (s.data.toList.take b).drop a := by
  rw [Lib.extract_data, List.drop_take]
theorem ext_size (s : ByteArray) (a b : Nat) (h : s.size ≤ 1000000) : (s.extract a b).size ≤ 1000000 := by
  rw [ByteArray.size_extract]; omega
set_option maxRecDepth 100000 in
set_option maxHeartbeats 4000000 in
theorem r19Parse_any (s : ByteArray) (w : World) (hs : s.size ≤ 1000000) :
    Calls Tryz.prog 13 #[.string s] w fun e w2 => e = .returned (.tuple #[.int .i64 (mdParse s.data.toList).1, .int .u64 (mdParse s.data.toList).2.1, .int .i64 (mdParse s.data.toList).2.2.1, .bool (mdParse s.data.toList).2.2.2]) ∧ Ext [] w w2 := by
  go_enter Tryz.func13, Tryz.ntmps13
  go_wp2_with fail
  go_loopw [6] (fun i wr => ∃ n : Nat, i = .int .i64 n ∧ n ≤ s.size ∧ NoHitTo s.data.toList n ∧ Ext [] w wr) (fun i _ => s.size - (intOf i).toNat)
  case atStart => exact ⟨0, rfl, Nat.zero_le _, fun a ha => absurd ha (Nat.not_lt_zero a), Ext.refl _ _⟩
  case round =>
    obtain ⟨i, rfl, hi, hno, hx⟩ := hrel
    have HNO := Lib.hid hno
    have HX := Lib.hid hx
    clear hno hx
    have hlen : s.data.toList.length = s.size := by simp
    have HLEN := Lib.hid hlen
    clear hlen
    by_cases hlt : i < s.size
    · have HI0 : Hid (s.data.toList[i]? = some s[i]) := by
        unfold Hid
        rw [List.getElem?_eq_getElem (by simpa using hlt)]
        rfl
      go_wp2_with fail
      go_loopw [7] (fun k wr => ∃ m : Nat, k = .int .i64 m ∧ i + 1 ≤ m ∧ m ≤ s.size ∧ NoHitIn s.data.toList i m ∧ Ext [] w wr) (fun k _ => s.size - (intOf k).toNat)
      case atStart => exact ⟨i + 1, by go_num, Nat.le_refl _, hlt, noHit_first _ _, HX.out⟩
      case round =>
        clear HX
        obtain ⟨k, rfl, hk1, hk2, hin, hx⟩ := hrel
        have HIN := Lib.hid hin
        have HX := Lib.hid hx
        clear hin hx
        by_cases hkl : k < s.size
        · have HK0 : Hid (s.data.toList[k]? = some s[k]) := by
            unfold Hid
            rw [List.getElem?_eq_getElem (by simpa using hkl)]
            rfl
          by_cases hc : s[i].toNat = 47
          · have hc' : ((s[i].toNat : Int) == 47) = true := by rw [hc]; rfl
            have HA : Hid (s.data.toList[i]? = some 47) := by
              rw [HI0.out]
              exact congrArg some (UInt8.toNat_inj.1 (by rw [hc]; rfl))
            clear hc
            go_wp2_with fail
            refine (r19Dig_bytes _ _ (ext_size s 0 i hs)).mono ?_
            rw [ext_take s 0 i (by omega) (by omega)]
            rw [List.drop_zero]
            have hda := r19Dig_bd (s.data.toList.take i)
            have HDA : Hid (r19Dig (s.data.toList.take i) = _) := rfl
            generalize hea : r19Dig (s.data.toList.take i) = a at *
            have HEA := Lib.hid hea
            clear hea HDA
            rintro e w1 ⟨rfl, rfl⟩
            go_wp2_with fail
            refine (r19Dig_bytes _ _ (ext_size s (i + 1) k hs)).mono ?_
            rw [ext_take s (i + 1) k (by omega) (by omega)]
            have hdb := r19Dig_bd ((s.data.toList.take k).drop (i + 1))
            generalize heb : r19Dig ((s.data.toList.take k).drop (i + 1)) = b at *
            have HEB := Lib.hid heb
            clear heb
            rintro e w1 ⟨rfl, rfl⟩
            go_wp2_with fail
            refine (r19Dig_bytes _ _ (ext_size s (k + 1) s.size hs)).mono ?_
            rw [ext_take s (k + 1) s.size (by omega) (by omega), List.take_of_length_le (by simp)]
            have hdc := r19Dig_bd (s.data.toList.drop (k + 1))
            generalize hec : r19Dig (s.data.toList.drop (k + 1)) = c at *
            have HEC := Lib.hid hec
            clear hec
            rintro e w1 ⟨rfl, rfl⟩
            by_cases hok : s[k].toNat = 46 ∧ 0 ≤ a ∧ 0 ≤ b ∧ 0 ≤ c
            · obtain ⟨hd, ha0, hb0, hc0⟩ := hok
              have hd' : ((s[k].toNat : Int) != 46) = false := by rw [hd]; rfl
              obtain ⟨bn, rfl⟩ : ∃ bn : Nat, b = bn := ⟨b.toNat, by omega⟩
              have hwb : IntKind.u64.wrap (bn : Int) = bn := by rw [IntKind.wrap_u64]; omega
              have HB : Hid (s.data.toList[k]? = some 46) := by
                rw [HK0.out]
                exact congrArg some (UInt8.toNat_inj.1 (by rw [hd]; rfl))
              have h1a : (a < 0) = False := by simp; omega
              have h1c : (c < 0) = False := by simp; omega
              clear hd
              have HN := Lib.hid (r19Name_any a bn c wr)
              have HQ0 : Hid (mdName (r19Dig (s.data.toList.take i)) (r19Dig ((s.data.toList.take k).drop (i + 1))).toNat (r19Dig (s.data.toList.drop (k + 1))) = mdName a bn c) := by
                unfold Hid
                rw [HEA.out, HEB.out, HEC.out, Int.toNat_natCast]
              have HG : Hid (0 ≤ r19Dig (s.data.toList.take i) ∧ 0 ≤ r19Dig ((s.data.toList.take k).drop (i + 1)) ∧ 0 ≤ r19Dig (s.data.toList.drop (k + 1))) := by
                unfold Hid
                rw [HEA.out, HEB.out, HEC.out]
                exact ⟨ha0, hb0, hc0⟩
              generalize mdName a bn c = q at *
              obtain ⟨nm, ec⟩ := q
              dsimp only at HN
              go_wp2_with fail
              refine HN.out.mono ?_
              rintro e w2 ⟨rfl, hx2⟩
              have HX2 := Lib.hid (HX.out.trans hx2 (by simp))
              clear hx2 HN
              by_cases hhit : ec = 0 ∧ nm = s.data.toList
              · obtain ⟨rfl, rfl⟩ := hhit
                have HH : Hid (hitAt s.data.toList i k) := ⟨by omega, HA.out, HB.out, HG.out.1, HG.out.2.1, HG.out.2.2, HQ0.out⟩
                have HV : Hid (mdParse s.data.toList = (a.toNat, bn, c.toNat, true)) := by
                  have := hit_parse HH.out
                  rw [HEA.out, HEB.out, HEC.out, Int.toNat_natCast] at this
                  exact this
                have HAN : Hid (((a.toNat : Nat) : Int) = a ∧ ((c.toNat : Nat) : Int) = c) := ⟨by omega, by omega⟩
                go_wp2
                refine bodyPost_ret (v := .tuple #[.int .i64 a, .int .u64 bn, .int .i64 c, .bool true]) (by simp [results, Tryz.results13, go_sem]) rfl ⟨by rw [HV.out]; dsimp only; rw [HAN.out.1, HAN.out.2], HX2.out⟩
              · have HH : Hid (¬ hitAt s.data.toList i k) := fun h => hhit (by
                  have h7 := h.2.2.2.2.2.2
                  rw [HQ0.out] at h7
                  exact ⟨(Prod.mk.inj h7).2, (Prod.mk.inj h7).1⟩)
                by_cases he : ec = 0
                · subst he
                  have hns : (nm == s.toList) = false := by
                    rw [ByteArray.toList_eq]
                    exact beq_eq_false_iff_ne.2 fun h => hhit ⟨rfl, h⟩
                  clear hhit
                  go_wp2
                  go_roundw
                  case rel => exact ⟨k + 1, by go_num, by omega, by omega, noHit_next HIN.out HH.out, HX2.out⟩
                  case measure => simp [intOf]; omega
                · clear hhit
                  go_wp2
                  go_roundw
                  case rel => exact ⟨k + 1, by go_num, by omega, by omega, noHit_next HIN.out HH.out, HX2.out⟩
                  case measure => simp [intOf]; omega
            · have HH : Hid (¬ hitAt s.data.toList i k) := fun h => hok (by
                have h3 := h.2.2.1
                rw [HK0.out] at h3
                have h4 := h.2.2.2.1
                have h5 := h.2.2.2.2.1
                have h6 := h.2.2.2.2.2.1
                rw [HEA.out] at h4
                rw [HEB.out] at h5
                rw [HEC.out] at h6
                exact ⟨by rw [Option.some.inj h3]; rfl, h4, h5, h6⟩)
              have hor : ¬ (s[k].toNat : Int) = 46 ∨ a < 0 ∨ b < 0 ∨ c < 0 := by
                omega
              clear hok
              go_wp2
              all_goals first
                | (exfalso; simp only [bne_iff_ne, ne_eq, bne_eq_false_iff_eq] at *; omega)
                | (go_roundw
                   case rel => exact ⟨k + 1, by go_num, by omega, by omega, noHit_next HIN.out HH.out, HX.out⟩
                   case measure => simp [intOf]; omega)
          · have hc' : ((s[i].toNat : Int) == 47) = false := by simpa using fun h => hc (by omega)
            have HA : Hid (∀ j, ¬ hitAt s.data.toList i j) := noHit_slash (by
              rw [HI0.out]
              intro h
              rw [Option.some.inj h] at hc
              exact hc rfl)
            clear hc
            go_wp2
            go_roundw
            case rel => exact ⟨i + 1, by go_num, by omega, noHit_all HNO.out HA.out, HX.out⟩
            case measure => simp [intOf]; omega
        · have HA : Hid (∀ j, ¬ hitAt s.data.toList i j) := noHit_full HIN.out (by have := HLEN.out; omega)
          go_wp2
          go_roundw
          case rel => exact ⟨i + 1, by go_num, by omega, noHit_all HNO.out HA.out, HX.out⟩
          case measure => simp [intOf]; omega
    · have HV : Hid (mdParse s.data.toList = (0, 0, 0, false)) := noHit_end HNO.out (by have := HLEN.out; omega)
      go_wp2
      refine bodyPost_ret (v := .tuple #[.int .i64 0, .int .u64 0, .int .i64 0, .bool false]) (by simp [results, Tryz.results13, go_sem]) rfl ⟨by rw [HV.out] <;> rfl, HX.out⟩
end Go.Proofs.YtcffickkipicbaaGreatDoor

/-! R19q -/
/-! R19q -/
namespace Go.Proofs.YtcffickkipicbaaGreatDoor
open Go.RowKit Go.Sort Go.Maps

section
variable {w0 w : World} {L : List Res} {F0 : List Nat} {x m : Nat} {D : Dk}
set_option maxRecDepth 100000 in
set_option maxHeartbeats 4000000 in
theorem r19hasS (n : Bs) (hF : D.now.length ≤ 1000000) (S : Sp w0 F0 w (rkR x D :: L)) : Calls Tryz.prog 62 #[.pointer (some ⟨x, 0, none⟩), .string ⟨n.toArray⟩] w fun e w2 => e = .returned (.bool (D.now.has n)) ∧ Sp w0 F0 w2 (rkR x D :: L) := by
  have HR := Lib.hid (rReadS n hF S)
  generalize D.now.has n = bh at *
  clear S hF
  cases bh with
  | true =>
    have HR2 : Hid (Calls Tryz.prog 74 #[.pointer (some ⟨x, 0, none⟩), .string ⟨n.toArray⟩] w fun e w2 => e = .returned (.tuple #[.string ⟨((D.now.get n).getD []).toArray⟩, .int .i64 0]) ∧ Sp w0 F0 w2 (rkR x D :: L)) := HR.out
    clear HR
    go_enter Tryz.func62, Tryz.ntmps62
    go_wp2_with fail
    refine HR2.out.mono ?_
    rintro e w2 ⟨rfl, S⟩
    have HS := Lib.hid S
    clear S
    go_wp2
    go_ret
    exact ⟨rfl, HS.out⟩
  | false =>
    have HR2 : Hid (Calls Tryz.prog 74 #[.pointer (some ⟨x, 0, none⟩), .string ⟨n.toArray⟩] w fun e w2 => e = .returned (.tuple #[.string ⟨((D.now.get n).getD []).toArray⟩, .int .i64 10]) ∧ Sp w0 F0 w2 (rkR x D :: L)) := HR.out
    clear HR
    go_enter Tryz.func62, Tryz.ntmps62
    go_wp2_with fail
    refine HR2.out.mono ?_
    rintro e w2 ⟨rfl, S⟩
    have HS := Lib.hid S
    clear S
    go_wp2
    go_ret
    exact ⟨rfl, HS.out⟩
set_option maxRecDepth 100000 in
set_option maxHeartbeats 8000000 in
theorem r19HasS (box : Int) (id : Nat) (rc : Int) (hF : D.now.length ≤ 1000000) (S : Sp w0 F0 w (rkR x D :: L)) : Calls Tryz.prog 40 #[.pointer (some ⟨x, 0, none⟩), .int .i64 box, .int .u64 id, .int .i64 rc] w fun e w2 => e = .returned (.bool (mdHas D box id rc)) ∧ Sp w0 F0 w2 (rkR x D :: L) := by
  have HN := Lib.hid (Calls.spA (r19Name_any box id rc w) S)
  have HV : Hid (mdHas D box id rc = (decide ((mdName box id rc).2 = 0) && D.now.has (newB ++ (mdName box id rc).1))) := rfl
  have hl := mdName_len box id rc
  generalize mdName box id rc = q at *
  obtain ⟨nm, ec⟩ := q
  dsimp only at *
  have a1 := add_str newB nm (by simp [newB, maxLen]; omega)
  have HH := Lib.hid (fun (W : World) (S : Sp w0 F0 W (rkR x D :: L)) => r19hasS (newB ++ nm) hF S)
  unfold newB at a1
  generalize hx : newB ++ nm = xn at *
  have ex : [110, 101, 119, 47] ++ nm = xn := hx
  rw [ex] at a1
  clear S hF hl hx ex
  by_cases he : ec = 0
  · subst he
    go_enter Tryz.func40, Tryz.ntmps40
    go_wp2_with fail
    refine HN.out.mono ?_
    rintro e w1 ⟨rfl, S1⟩
    have HS1 := Lib.hid S1
    clear S1 HN
    go_wp2_with fail
    refine (HH.out _ HS1.out).mono ?_
    rintro e w2 ⟨rfl, S2⟩
    have HS2 := Lib.hid S2
    clear S2
    go_wp2
    go_ret
    exact ⟨by rw [HV.out]; simp, HS2.out⟩
  · have he' : (ec == 0) = false := by simpa using he
    have HV2 : Hid (mdHas D box id rc = false) := by rw [HV.out]; simp [he]; trivial
    clear HV
    go_enter Tryz.func40, Tryz.ntmps40
    go_wp2_with fail
    refine HN.out.mono ?_
    rintro e w1 ⟨rfl, S1⟩
    have HS1 := Lib.hid S1
    clear S1 HN
    go_wp2
    go_ret
    exact ⟨by rw [HV2.out]; rfl, HS1.out⟩
set_option maxRecDepth 100000 in
set_option maxHeartbeats 8000000 in
theorem r19DeliverS (box : Int) (id : Nat) (rc : Int) (text : Bs) (hD : D.Ok m) (hm : m ≤ 400000) (ht : text.length ≤ 100000) (S : Sp w0 F0 w (rkR x D :: L)) :
    Calls Tryz.prog 26 #[.pointer (some ⟨x, 0, none⟩), .int .i64 box, .int .u64 id, .int .i64 rc, .string ⟨text.toArray⟩] w fun e w2 => e = .returned (.int .i64 (mdDeliver D box id rc text).2) ∧ Sp w0 F0 w2 (rkR x (mdDeliver D box id rc text).1 :: L) := by
  have HN := Lib.hid (Calls.spA (r19Name_any box id rc w) S)
  have HDL : Hid (mdDeliver D box id rc text = if (mdName box id rc).2 ≠ 0 then (D, (mdName box id rc).2) else if D.now.has (newB ++ (mdName box id rc).1) then (D, 0) else mdLay D (mdName box id rc).1 text) := rfl
  have hl := mdName_len box id rc
  generalize mdName box id rc = q at *
  obtain ⟨nm, ec⟩ := q
  dsimp only at *
  have hb1 := hD.write (tmpB ++ nm) text
  have hlt : (tmpB ++ nm).length ≤ 22 := by simp [tmpB]; omega
  have hln : (newB ++ nm).length ≤ 22 := by simp [newB]; omega
  have HH := Lib.hid (fun (W : World) (S : Sp w0 F0 W (rkR x D :: L)) => r19hasS (newB ++ nm) (by have := hD.now; omega) S)
  have HWR := Lib.hid (fun (W : World) (S : Sp w0 F0 W (rkR x D :: L)) => rWriteS (tmpB ++ nm) text hD (by omega) (by omega) (by omega) S)
  have HS_1 := Lib.hid (fun (W : World) (S : Sp w0 F0 W (rkR x (D.write (tmpB ++ nm) text).1 :: L)) => rSyncS hb1 (by omega) S)
  have HRN := Lib.hid (fun (W : World) (S : Sp w0 F0 W (rkR x (D.write (tmpB ++ nm) text).1.sync.1 :: L)) => rRenameS (tmpB ++ nm) (newB ++ nm) hb1.sync (by omega) (by omega) S)
  have HS_2 := Lib.hid (fun (W : World) (S : Sp w0 F0 W (rkR x ((D.write (tmpB ++ nm) text).1.sync.1.rename (tmpB ++ nm) (newB ++ nm)).1 :: L)) => rSyncS (hb1.sync.rename (tmpB ++ nm) (newB ++ nm)) (by omega) S)
  have HLY : Hid (mdLay D nm text = _) := Lib.hid (mdLay.eq_1 D nm text)
  have a1 := add_str newB nm (by simp [newB, maxLen]; omega)
  have a2 := add_str tmpB nm (by simp [tmpB, maxLen]; omega)
  unfold newB at a1
  unfold tmpB at a2
  generalize hx : newB ++ nm = xn at *
  generalize hy : tmpB ++ nm = xt at *
  have ex : [110, 101, 119, 47] ++ nm = xn := hx
  have ey : [116, 109, 112, 47] ++ nm = xt := hy
  rw [ex] at a1
  rw [ey] at a2
  clear S hD hm ht hl hb1 hx hy ex ey hlt hln
  go_enter Tryz.func26, Tryz.ntmps26
  go_wp2_with fail
  refine HN.out.mono ?_
  rintro e w1 ⟨rfl, S1⟩
  have HS1 := Lib.hid S1
  clear S1 HN
  by_cases he : ec = 0
  · subst he
    rw [if_neg (by simp)] at HDL
    go_wp2_with fail
    refine (HH.out _ HS1.out).mono ?_
    rintro e wq ⟨rfl, Sq⟩
    have HSq := Lib.hid Sq
    clear Sq HS1 HH
    cases hh : D.now.has xn with
    | true =>
      have HV : Hid (mdDeliver D box id rc text = (D, 0)) := by rw [HDL.out, hh]; exact Eq.refl _
      clear hh
      go_wp2
      go_ret
      rw [HV.out]
      exact ⟨rfl, HSq.out⟩
    | false =>
      have HV : Hid (mdDeliver D box id rc text = mdLay D nm text) := by rw [HDL.out, hh]; exact Eq.refl _
      clear hh HDL
      go_wp2_with fail
      refine (HWR.out _ HSq.out).mono ?_
      generalize D.write xt text = R at *
      obtain ⟨D1, e1⟩ := R
      dsimp only at *
      rintro e w2 ⟨rfl, S2⟩
      have HS2 := Lib.hid S2
      clear S2 HSq HWR
      by_cases h1 : e1 = 0
      · subst h1
        rw [if_neg (by simp)] at HLY
        go_wp2_with fail
        refine (HS_1.out _ HS2.out).mono ?_
        generalize D1.sync = R at *
        obtain ⟨D2, e2⟩ := R
        dsimp only at *
        rintro e w3 ⟨rfl, S3⟩
        have HS3 := Lib.hid S3
        clear S3 HS2 HS_1
        by_cases h2 : e2 = 0
        · subst h2
          rw [if_neg (by simp)] at HLY
          go_wp2_with fail
          refine (HRN.out _ HS3.out).mono ?_
          generalize D2.rename xt xn = R at *
          obtain ⟨D3, e3⟩ := R
          dsimp only at *
          rintro e w4 ⟨rfl, S4⟩
          have HS4 := Lib.hid S4
          clear S4 HS3 HRN
          by_cases h3 : e3 = 0
          · subst h3
            rw [if_neg (by simp)] at HLY
            go_wp2_with fail
            refine (HS_2.out _ HS4.out).mono ?_
            generalize D3.sync = R at *
            obtain ⟨D4, e4⟩ := R
            dsimp only at *
            rintro e w5 ⟨rfl, S5⟩
            have HS5 := Lib.hid S5
            clear S5 HS4 HS_2
            go_wp2
            go_ret
            rw [HV.out, HLY.out]
            exact ⟨rfl, HS5.out⟩
          · have t3 : (e3 == 0) = false := by simpa using h3
            rw [if_pos h3] at HLY
            clear h3
            go_wp2
            go_ret
            rw [HV.out, HLY.out]
            exact ⟨rfl, HS4.out⟩
        · have t2 : (e2 == 0) = false := by simpa using h2
          rw [if_pos h2] at HLY
          clear h2
          go_wp2
          go_ret
          rw [HV.out, HLY.out]
          exact ⟨rfl, HS3.out⟩
      · have t1 : (e1 == 0) = false := by simpa using h1
        rw [if_pos h1] at HLY
        clear h1
        go_wp2
        go_ret
        rw [HV.out, HLY.out]
        exact ⟨rfl, HS2.out⟩
  · have t0 : (ec != 0) = true := by simpa using he
    have HV : Hid (mdDeliver D box id rc text = (D, ec)) := by rw [HDL.out, if_pos he]; exact Eq.refl _
    clear he
    go_wp2
    go_ret
    rw [HV.out]
    exact ⟨rfl, HS1.out⟩
end
end Go.Proofs.YtcffickkipicbaaGreatDoor

/-! R19r -/
/-! R19r -/
namespace Go.Proofs.YtcffickkipicbaaGreatDoor
open Go.RowKit Go.Sort Go.Maps

section
variable {w0 w : World} {L : List Res} {F0 : List Nat} {x m : Nat} {D : Dk}
set_option maxRecDepth 100000 in
set_option maxHeartbeats 4000000 in
theorem r19RecoverS (hD : D.Ok m) (hm : m ≤ 400000) (hl : (D.now.names tmpB).length ≤ 300) (hn : ∀ n ∈ D.now.names tmpB, n.length ≤ 1000) (S : Sp w0 F0 w (rkR x D :: L)) :
    Calls Tryz.prog 27 #[.pointer (some ⟨x, 0, none⟩)] w fun e w2 => e = .returned (.int .i64 (mdRecover D).2) ∧ Sp w0 F0 w2 (rkR x (mdRecover D).1 :: L) := by
  have HLS := Lib.hid (rListS tmpB (by have := hD.now; omega) S)
  have HRC : Hid (mdRecover D = _) := Lib.hid (mdRecover.eq_1 D)
  have HN := Lib.hid hn
  have HD := Lib.hid hD
  have hl' : ((D.now.names tmpB).length : Int) ≤ 300 := by omega
  generalize D.now.names tmpB = l at *
  clear S hD hn
  go_enter Tryz.func27, Tryz.ntmps27
  go_wp2_with fail
  refine HLS.out.mono ?_
  rintro e w1 ⟨v, rfl, S1⟩
  obtain ⟨a, cap, rfl⟩ := S1.textSlice
  have HS1 := Lib.hid S1
  clear S1 HLS
  go_wp2_with fail
  go_loopw [4] (fun z wr => ∃ (i : Nat) (D2 : Dk), z = .int .i64 i ∧ i ≤ l.length ∧ D2.Ok (m + 1001 * i) ∧ mdRemoves l D = mdRemoves (l.drop i) D2 ∧ Sp w0 F0 wr (textsR (.slice a l.length cap) l :: rkR x D2 :: L)) (fun z _ => l.length - (intOf z).toNat)
  case atStart => exact ⟨0, D, rfl, by omega, HD.out.mono (by omega), rfl, HS1.out⟩
  case round =>
    obtain ⟨i, D2, rfl, hi, hok, hrm, S2⟩ := hrel
    have HOK := Lib.hid hok
    have HRM := Lib.hid hrm
    have HS2 := Lib.hid S2
    by_cases hlt : i < l.length
    · have hlt' : (i : Int) < l.length := by omega
      have hi0 : (0 : Int) ≤ i := by omega
      obtain ⟨y, hx⟩ : ∃ y, l[i]? = some y := ⟨_, List.getElem?_eq_getElem hlt⟩
      obtain ⟨g, rfl, c⟩ := S2.textCell hx
      have HXL : Hid (y.length ≤ 1000) := HN.out y (List.mem_of_getElem? hx)
      have hd : l.drop i = y :: l.drop (i + 1) := by
        rw [List.drop_eq_getElem_cons hlt]
        congr 1
        rw [List.getElem?_eq_getElem hlt] at hx
        exact Option.some.inj hx
      have HR1 : Hid (mdRemoves l D = if (D2.remove y).2 ≠ 0 then D2.remove y else mdRemoves (l.drop (i + 1)) (D2.remove y).1) := by rw [HRM.out, hd]; exact Eq.refl _
      have HOK2 : Hid ((D2.remove y).1.Ok (m + 1001 * (i + 1))) := (hok.remove y).mono (by have := HXL.out; omega)
      clear S2 hok hrm hx hd HRM HS1
      go_wp2_with fail
      refine (rRemoveS y HOK.out (by omega) HS2.out.pull1).mono ?_
      generalize D2.remove y = R at *
      obtain ⟨D3, e3⟩ := R
      dsimp only at *
      rintro e w3 ⟨rfl, S3⟩
      have HS3 := Lib.hid S3.pull1
      clear S3 HS2 c
      by_cases he : e3 = 0
      · subst he
        rw [if_neg (by simp)] at HR1
        go_wp2_with fail
        go_roundw
        case rel => exact ⟨i + 1, D3, by go_num, by omega, HOK2.out, HR1.out, HS3.out⟩
        case measure => simp [intOf]; omega
      · have t1 : (e3 != 0) = true := by simpa using he
        have HV : Hid (mdRecover D = (D3, e3)) := by rw [HRC.out, HR1.out, if_pos he]; simp [he, Hid]
        clear he
        go_wp2
        go_ret
        rw [HV.out]
        exact ⟨rfl, HS3.out.drop⟩
    · obtain rfl : i = l.length := by omega
      rw [List.drop_length] at HRM
      have HR1 : Hid (mdRemoves l D = (D2, 0)) := HRM.out
      clear S2 hok hrm HRM HS1
      by_cases hz : l = []
      · subst hz
        have HV : Hid (mdRecover D = (D2, 0)) := by rw [HRC.out, HR1.out]; simp [Hid]
        go_wp2
        go_ret
        rw [HV.out]
        exact ⟨rfl, HS2.out.drop⟩
      · have hpos : (0 : Int) < l.length := by have := List.length_pos_iff.2 hz; omega
        have hne : ((l.length : Int) == 0) = false := by simp; omega
        have HV : Hid (mdRecover D = D2.sync) := by rw [HRC.out, HR1.out]; simp [hz, Hid]
        clear hz
        go_wp2_with fail
        refine (rSyncS HOK.out (by omega) HS2.out.drop).mono ?_
        generalize D2.sync = R at *
        obtain ⟨D3, e3⟩ := R
        dsimp only at *
        rintro e w3 ⟨rfl, S3⟩
        have HS3 := Lib.hid S3
        clear S3
        go_wp2
        go_ret
        rw [HV.out]
        exact ⟨rfl, HS3.out⟩
end
end Go.Proofs.YtcffickkipicbaaGreatDoor

/-! R19t -/
/-! R19t -/
namespace Go.Proofs.YtcffickkipicbaaGreatDoor
open Go.RowKit Go.Sort Go.Maps

theorem mdLt_of {x y : Bs} : mdLt x y = true ↔ ((mdKey x).1 < (mdKey y).1 ∨ ((mdKey x).1 = (mdKey y).1 ∧ (mdKey x).2 < (mdKey y).2)) := by unfold mdLt; rw [decide_eq_true_eq]
theorem mdLt_no {x y : Bs} : mdLt x y = false ↔ ¬ ((mdKey x).1 < (mdKey y).1 ∨ ((mdKey x).1 = (mdKey y).1 ∧ (mdKey x).2 < (mdKey y).2)) := by unfold mdLt; rw [decide_eq_false_iff_not]
theorem ins_sorted {out : List Bs} {s : Bs} {k : Nat} (hk : k ≤ out.length) (hp : out.Pairwise fun x y => mdLt y x = false) (h1 : ∀ j (h : j < out.length), k ≤ j → mdLt out[j] s = false) (h2 : ∀ (h : 0 < k), mdLt (out[k - 1]'(by omega)) s = true) : (out.take k ++ s :: out.drop k).Pairwise fun x y => mdLt y x = false := by
  have e : out = out.take k ++ out.drop k := (List.take_append_drop k out).symm
  have hp2 := hp
  rw [e, List.pairwise_append] at hp2
  obtain ⟨p1, p2, p3⟩ := hp2
  rw [List.pairwise_append, List.pairwise_cons]
  refine ⟨p1, ⟨fun y hy => ?_, p2⟩, fun a ha b hb => ?_⟩
  · obtain ⟨j, hj, rfl⟩ := List.getElem_of_mem hy
    rw [List.getElem_drop]
    rw [List.length_drop] at hj
    exact h1 _ (by omega) (by omega)
  · rcases List.mem_cons.1 hb with rfl | hb
    · obtain ⟨j, hj, rfl⟩ := List.getElem_of_mem ha
      rw [List.getElem_take]
      rw [List.length_take] at hj
      have h3 := mdLt_of.1 (h2 (by omega))
      rw [mdLt_no]
      by_cases hjk : j = k - 1
      · subst hjk
        omega
      · have h4 := List.pairwise_iff_getElem.1 hp j (k - 1) (by omega) (by omega) (by omega)
        rw [mdLt_no] at h4
        omega
    · exact p3 a ha b hb
theorem md_unique {F : Fs} {box : Int} {a b : List Bs} (h1 : MdSorted (mdNames F box) a) (h2 : MdSorted (mdNames F box) b) : a = b := by
  refine List.Perm.eq_of_pairwise (le := fun x y => mdLt y x = false) (fun x y hx hy h3 h4 => ?_) h1.2 h2.2 (h1.1.trans h2.1.symm)
  have key : ∀ z, z ∈ mdNames F box → ∃ p : Nat × Nat × Nat, mdParse z = (p.1, p.2.1, p.2.2, true) ∧ (p.1 : Int) = box ∧ z = nameB p.1 p.2.1 p.2.2 := fun z hz => by
    have hi := mdNames_is hz
    have hpk : mdPick box z = true := (List.mem_filter.1 hz).2
    have hp : mdParse z = ((mdRead z).1, (mdRead z).2.1, (mdRead z).2.2, true) := by unfold mdParse; rw [if_pos hi]
    refine ⟨mdRead z, hp, ?_, ?_⟩
    · unfold mdPick at hpk
      rw [Bool.and_eq_true, decide_eq_true_eq, hp] at hpk
      exact hpk.2
    · unfold mdIs at hi
      rw [Bool.and_eq_true, beq_iff_eq] at hi
      exact hi.2.symm
  obtain ⟨p, p1, p2, p3⟩ := key x (h1.1.mem_iff.1 hx)
  obtain ⟨q, q1, q2, q3⟩ := key y (h2.1.mem_iff.1 hy)
  rw [mdLt_no] at h3 h4
  unfold mdKey at h3 h4
  rw [p1, q1] at h3 h4
  dsimp only at h3 h4
  have e1 : p.1 = q.1 := by omega
  have e2 : p.2.1 = q.2.1 := by omega
  have e3 : p.2.2 = q.2.2 := by omega
  rw [p3, q3, e1, e2, e3]
theorem ins_md {l : List Bs} {out : List Bs} {s : Bs} {k : Nat} (h : MdSorted l out) (hk : k ≤ out.length) (h1 : ∀ j (h : j < out.length), k ≤ j → mdLt out[j] s = false) (h2 : ∀ (h : 0 < k), mdLt (out[k - 1]'(by omega)) s = true) : MdSorted (l ++ [s]) (out.take k ++ s :: out.drop k) := by
  refine ⟨?_, ins_sorted hk h.2 h1 h2⟩
  have e : (out.take k ++ s :: out.drop k).Perm (s :: (out.take k ++ out.drop k)) := List.perm_middle
  rw [List.take_append_drop] at e
  exact e.trans ((List.Perm.cons s h.1).trans (List.perm_append_singleton s l).symm)
theorem cut_tailD (s : Bs) (n m : Nat) (h : m = s.length) : (ByteArray.mk s.toArray).extract n m = ⟨(s.drop n).toArray⟩ := by
  subst h
  apply ByteArray.ext
  simp [ByteArray.data_extract]
  rw [List.take_of_length_le (by simp)]
/-- Texts that are only read. -/
def tkR (v : Value) (l : List Bs) : Res := Res.ex fun K : List Rom => (Res.pure (txK v l ∈ K)).and (romR K)
section
variable {w0 w : World} {L : List Res} {F0 : List Nat} {x m : Nat} {D : Dk} {K : List Rom} {v : Value} {l : List Bs}
theorem Sp.tkShut (h : txK v l ∈ K) (S : Sp w0 F0 w (romR K :: L)) : Sp w0 F0 w (tkR v l :: L) := Sp.exShut K (S.pureShut h).glue
theorem Sp.tkOpen (S : Sp w0 F0 w (tkR v l :: L)) : ∃ K, txK v l ∈ K ∧ Sp w0 F0 w (romR K :: L) := by
  obtain ⟨K, S⟩ := Sp.exOpen S
  obtain ⟨h, S⟩ := S.part.pureOpen
  exact ⟨K, h, S⟩
theorem r19ParseS (s : Bs) (hs : s.length ≤ 1000000) (S : Sp w0 F0 w L) : Calls Tryz.prog 13 #[.string ⟨s.toArray⟩] w fun e w2 => e = .returned (.tuple #[.int .i64 (mdParse s).1, .int .u64 (mdParse s).2.1, .int .i64 (mdParse s).2.2.1, .bool (mdParse s).2.2.2]) ∧ Sp w0 F0 w2 L := Calls.spA (r19Parse_any ⟨s.toArray⟩ w (by simpa [ByteArray.size] using hs)) S
set_option maxRecDepth 100000 in
set_option maxHeartbeats 8000000 in
theorem r19ListS (box : Int) (hF : D.now.length ≤ 100000) (hn : ∀ n ∈ D.now.names newB, n.length ≤ 1000) (S : Sp w0 F0 w (rkR x D :: L)) :
    Calls Tryz.prog 37 #[.pointer (some ⟨x, 0, none⟩), .int .i64 box] w fun e w2 => ∃ v l', e = .returned v ∧ MdSorted (mdNames D.now box) l' ∧ Sp w0 F0 w2 (tkR v l' :: rkR x D :: L) := by
  have HLS := Lib.hid (fun (W : World) (L' : List Res) (S : Sp w0 F0 W (rkR x D :: L')) => rListS newB (by omega) S)
  have HPRE : Hid (∀ y ∈ D.now.names newB, newB.isPrefixOf y = true) := fun y hy => names_pre hy
  have HMN : Hid (mdNames D.now box = ((D.now.names newB).map (List.drop 4)).filter (mdPick box)) := rfl
  have HN := Lib.hid hn
  have HLL : Hid ((D.now.names newB).length ≤ 100000) := Nat.le_trans (List.length_filter_le _ _) (by rw [List.length_map]; exact hF)
  have HS1 : Hid (Sp w0 F0 (w.alloc (.cells #[] 9)) (rkR x D :: romR [txK (.slice (some ⟨w.heap.size, 0, none⟩) 0 0) []] :: L)) := Lib.hid (Sp.romMore (rows := []) ((Sp.pick [_, _, _] [1, 0, 2] (by decide) (((S.rowMadeR 9 1).romNil)))) (by simp)).pull1
  generalize mdNames D.now box = mn at *
  generalize D.now.names newB = l at *
  have hl' : (l.length : Int) ≤ 100000 := by have := HLL.out; omega
  clear S hn hF
  go_enter Tryz.func37, Tryz.ntmps37
  go_wp2_with fail
  generalize w.alloc _ = w1 at *
  generalize w.heap.size = g0 at *
  refine (HLS.out _ _ HS1.out).mono ?_
  rintro e w2 ⟨v, rfl, S2⟩
  obtain ⟨na, nc, rfl⟩ := S2.textSlice
  have HS2 := Lib.hid ((Sp.pick [_, _, _] [2, 0, 1] (by decide) (S2)))
  clear S2 HS1 HLS
  go_wp2_with fail
  go_loopw [5, 7] (fun o z wr => ∃ (j : Nat) (K' : List Rom) (oa : Option Addr) (oc : Nat) (out : List Bs), z = .int .i64 j ∧ j ≤ l.length ∧ o = .slice oa out.length oc ∧ txK (.slice oa out.length oc) out ∈ K' ∧ MdSorted (((l.take j).map (List.drop 4)).filter (mdPick box)) out ∧ Sp w0 F0 wr (romR K' :: textsR (.slice na l.length nc) l :: rkR x D :: L)) (fun _ z _ => l.length - (intOf z).toNat)
  case atStart => exact ⟨0, _, _, 0, [], rfl, Nat.zero_le _, rfl, List.mem_cons_self, ⟨by simp, by simp⟩, HS2.out⟩
  case round =>
    obtain ⟨j, K', oa, oc, out, rfl, hj, rfl, hqo, hms, S2⟩ := hrel
    clear HS2
    have HQO := Lib.hid hqo
    have HMS := Lib.hid hms
    have HS2 := Lib.hid S2
    by_cases hlt : j < l.length
    · have hlt' : (j : Int) < l.length := by omega
      obtain ⟨y, hx⟩ : ∃ y, l[j]? = some y := ⟨_, List.getElem?_eq_getElem hlt⟩
      obtain ⟨b2, hna, c2⟩ := S2.pull1.textCell hx
      subst hna
      have hym := List.mem_of_getElem? hx
      have HYL : Hid (y.length ≤ 1000) := HN.out y hym
      have hy4 : 4 ≤ y.length := (List.isPrefixOf_iff_prefix.1 (HPRE.out y hym)).length_le
      have hy4' : (4 : Int) ≤ y.length := by omega
      have HCT := cut_tailD y 4 y.length rfl
      have HST : Hid (((l.take (j + 1)).map (List.drop 4)).filter (mdPick box) = ((l.take j).map (List.drop 4)).filter (mdPick box) ++ (if mdPick box (y.drop 4) then [y.drop 4] else [])) := by
        have hg : l[j] = y := by rw [List.getElem?_eq_getElem hlt] at hx; exact Option.some.inj hx
        unfold Hid
        rw [List.take_succ_eq_append_getElem hlt, List.map_append, List.filter_append, hg]
        congr 1
        by_cases h : mdPick box (y.drop 4) = true <;> simp [h]
      have HOL : Hid (out.length ≤ 100000) := by
        unfold Hid
        rw [hms.1.length_eq]
        refine Nat.le_trans (List.length_filter_le _ _) ?_
        rw [List.length_map, List.length_take]
        have := HLL.out
        omega
      have HOE : Hid (∀ i (h : i < out.length), out[i].length ≤ 1000000) := fun i h => by
        have hm := hms.1.mem_iff.1 (List.getElem_mem h)
        obtain ⟨z, hz, hz2⟩ := List.mem_map.1 (List.mem_filter.1 hm).1
        have h3 := HN.out z (List.mem_of_mem_take hz)
        rw [← hz2, List.length_drop]
        omega
      have hsl : (y.drop 4).length ≤ 1000000 := by rw [List.length_drop]; have := HYL.out; omega
      have HPK : Hid (mdPick box (y.drop 4) = ((mdParse (y.drop 4)).2.2.2 && decide (((mdParse (y.drop 4)).1 : Int) = box))) := rfl
      have HKY : Hid (mdKey (y.drop 4) = ((mdParse (y.drop 4)).2.1, (mdParse (y.drop 4)).2.2.1)) := rfl
      have HPS := Lib.hid (fun (W : World) (L' : List Res) (S : Sp w0 F0 W L') => r19ParseS (y.drop 4) hsl S)
      have HINS : Hid (∀ c (hc : c ≤ out.length), (∀ i (h : i < out.length), c ≤ i → mdLt out[i] (y.drop 4) = false) → (∀ (h : 0 < c), mdLt (out[c - 1]'(by omega)) (y.drop 4) = true) → MdSorted (((l.take j).map (List.drop 4)).filter (mdPick box) ++ [y.drop 4]) (out.take c ++ y.drop 4 :: out.drop c)) := fun c hc h1 h2 => ins_md hms hc h1 h2
      generalize y.drop 4 = s at *
      clear S2 hqo hms hx hym hsl
      go_wp2_with fail
      try rw [HCT]
      refine (HPS.out _ _ HS2.out).mono ?_
      rintro e w3 ⟨rfl, S3⟩
      have HS3 := Lib.hid S3
      clear S3 HS2 HPS c2
      generalize mdParse s = P at *
      obtain ⟨p1, p2, p3, p4⟩ := P
      dsimp only at *
      cases p4 with
      | false =>
        have HST2 := Lib.hid (HST.out.trans (by rw [if_neg (by rw [HPK.out]; simp), List.append_nil]))
        go_wp2_with fail
        go_roundw
        case rel => exact ⟨j + 1, K', oa, oc, out, by go_num, by omega, rfl, HQO.out, by rw [HST2.out]; exact HMS.out, HS3.out⟩
        case measure => simp [intOf]; omega
      | true =>
        by_cases hbx : (p1 : Int) = box
        · have HST2 := Lib.hid (HST.out.trans (by rw [if_pos (by rw [HPK.out]; simp [hbx])]))
          rw [← HST2.out] at HINS
          subst hbx
          clear HST HST2 HPK HMS
          go_wp2_with fail
          go_loopw [13] (fun z wr => ∃ c : Nat, z = .int .i64 c ∧ c ≤ out.length ∧ (∀ i (h : i < out.length), c ≤ i → mdLt out[i] s = false) ∧ Sp w0 F0 wr (romR K' :: textsR (.slice (some ⟨b2, 0, none⟩) l.length nc) l :: rkR x D :: L)) (fun z _ => (intOf z).toNat)
          case atStart => exact ⟨out.length, rfl, Nat.le_refl _, fun i h h2 => by omega, HS3.out⟩
          case round =>
            clear HS3
            obtain ⟨c, rfl, hc, hall, S4⟩ := hrel
            have HS3 := Lib.hid S4
            have HALL := Lib.hid hall
            have hol : (out.length : Int) ≤ 100000 := by have := HOL.out; omega
            by_cases hc0 : 0 < c
            · obtain ⟨e, rfl⟩ : ∃ e, c = e + 1 := ⟨c - 1, by omega⟩
              have hel : e < out.length := by omega
              have hii : ((e + 1 : Nat) : Int) - 1 = (e : Int) := by omega
              have hel' : (e : Int) < out.length := by omega
              have hgt : (0 : Int) < ((e + 1 : Nat) : Int) := by omega
              obtain ⟨a2, cap2, e1, _, hra⟩ := S4.romTx HQO.out
              simp only [Value.slice.injEq] at e1
              obtain ⟨rfl, _, hcap⟩ := e1
              subst hcap
              obtain ⟨b1, o1, rfl⟩ := hra.addr (i := e) (by simpa using hel)
              have c1 := texts_cell hra e hel
              have HPE := Lib.hid (fun (W : World) (L' : List Res) (S : Sp w0 F0 W L') => r19ParseS out[e] (HOE.out e hel) S)
              have HLQ : Hid (mdLt out[e] s = decide ((mdParse out[e]).2.1 < p2 ∨ ((mdParse out[e]).2.1 = p2 ∧ (mdParse out[e]).2.2.1 < p3))) := by unfold Hid mdLt; rw [HKY.out]; rfl
              obtain ⟨y1, hy1⟩ : ∃ y1, y1 = out[e] := ⟨_, rfl⟩
              have HY1 := Lib.hid hy1
              rw [← hy1] at c1 HPE HLQ
              clear hra hy1 S4 hall
              generalize mdParse y1 = Q at *
              obtain ⟨q1, q2, q3, q4⟩ := Q
              dsimp only at *
              go_wp2_with fail
              refine (HPE.out _ _ HS3.out).mono ?_
              rintro e5 w5 ⟨rfl, S5⟩
              clear HS3
              have HS3 := Lib.hid S5
              clear S5 c1 HPE
              obtain ⟨lt, hlt⟩ : ∃ lt : Bool, lt = decide (q2 < p2 ∨ (q2 = p2 ∧ q3 < p3)) := ⟨_, rfl⟩
              rw [← hlt] at HLQ
              have HLT0 := Lib.hid hlt
              clear hlt
              go_upto_region 14 with (fail)
              go_cut [77] (fun v wx => v = .bool lt ∧ Sp w0 F0 wx (romR K' :: textsR (.slice (some ⟨b2, 0, none⟩) l.length nc) l :: rkR x D :: L))
              case first =>
                by_cases g1 : (q2 : Int) < (p2 : Int)
                · have HV : Hid (lt = true) := by unfold Hid; rw [HLT0.out, decide_eq_true_eq]; omega
                  go_wp2_with fail
                  go_meet
                  exact ⟨by rw [HV.out], HS3.out⟩
                · by_cases g2 : (q2 : Int) = (p2 : Int)
                  · have g2' : ((q2 : Int) == (p2 : Int)) = true := by simpa using g2
                    by_cases g3 : (q3 : Int) < (p3 : Int)
                    · have HV : Hid (lt = true) := by unfold Hid; rw [HLT0.out, decide_eq_true_eq]; omega
                      clear g2
                      go_wp2_with fail
                      go_meet
                      exact ⟨by rw [HV.out], HS3.out⟩
                    · have HV : Hid (lt = false) := by unfold Hid; rw [HLT0.out, decide_eq_false_iff_not]; omega
                      clear g2
                      go_wp2_with fail
                      go_meet
                      exact ⟨by rw [HV.out], HS3.out⟩
                  · have g2' : ((q2 : Int) == (p2 : Int)) = false := by simpa using g2
                    have HV : Hid (lt = false) := by unfold Hid; rw [HLT0.out, decide_eq_false_iff_not]; omega
                    clear g2
                    go_wp2_with fail
                    go_meet
                    exact ⟨by rw [HV.out], HS3.out⟩
              case rest =>
                obtain ⟨rfl, S5⟩ := hcut
                clear HS3
                have HS3 := Lib.hid S5
                clear S5
                cases lt with
                | true =>
                  have HLT : Hid (∀ (h : 0 < e + 1), mdLt (out[e + 1 - 1]'(by omega)) s = true) := fun _ => (show mdLt out[e] s = true by rw [← HY1.out]; exact HLQ.out)
                  clear HLQ HY1 HLT0
                  have HCC := (HS3.out.romCut HQO.out (lo := (e + 1)) (hi := out.length) hc (by simp)).romCut (List.mem_cons_of_mem _ HQO.out) (lo := 0) (hi := (e + 1)) (Nat.zero_le _) (by simpa using hc)
                  obtain ⟨sv, hsv⟩ : ∃ sv : Value, sv = .slice (if oc = (e + 1) then (some ⟨b1, o1, none⟩) else ((some ⟨b1, o1, none⟩) : Option Addr).map (·.add ((e + 1) * 1))) (out.length - (e + 1)) (oc - (e + 1)) := ⟨_, rfl⟩
                  obtain ⟨sz, hsz⟩ : ∃ sz : Value, sz = .slice (if oc = 0 then (some ⟨b1, o1, none⟩) else ((some ⟨b1, o1, none⟩) : Option Addr).map (·.add (0 * 1))) ((e + 1) - 0) (oc - 0) := ⟨_, rfl⟩
                  have hcoc : (e + 1) ≤ oc := by have := HS3.out.romCap HQO.out; omega
                  have HSL := fun W => strs_from (a := (some ⟨b1, o1, none⟩)) (n := out.length) (cap := oc) hc W
                  have HSZ := fun W => strs_to (a := (some ⟨b1, o1, none⟩)) (n := out.length) (cap := oc) hcoc W
                  rw [← hsv, ← hsz] at HCC
                  rw [← hsv] at HSL
                  rw [← hsz] at HSZ
                  have hcast : (((e + 1) : Nat) : Int) = (e : Int) + 1 := by omega
                  simp only [hcast] at HSL HSZ
                  rw [show ((out.map txRow).take out.length).drop (e + 1) = (out.drop (e + 1)).map txRow by rw [List.take_of_length_le (by simp), List.map_drop], show ((out.map txRow).take (e + 1)).drop 0 = (out.take (e + 1)).map txRow by rw [List.drop_zero, List.map_take]] at HCC
                  have hdl : ((out.drop (e + 1)).map txRow).length ≤ 1000000 := by rw [List.length_map, List.length_drop]; have := HOL.out; omega
                  have htl : ((out.take (e + 1)).map txRow).length ≤ 1000000 := by rw [List.length_map, List.length_take]; have := HOL.out; omega
                  have HDL := Lib.hid hdl
                  have HTL := Lib.hid htl
                  have S1a := HCC.rowLaid 9 1 1 [.string ⟨s.toArray⟩] rfl (by unfold maxLen; omega)
                  obtain ⟨u, w9, hr0, S9⟩ := Sp.appendRom 38 38 _ 16 infoStr0 rfl Tryz.underlying38 (by decide) (by decide) (show (⟨sv, 1, (out.drop (e + 1)).map txRow⟩ : Rom) ∈ _ from List.mem_cons_of_mem _ List.mem_cons_self) tx_len tx_one (by have := HDL.out; omega) S1a
                  have S4 := tx_more s (l := out.drop (e + 1)) S9
                  obtain ⟨ua, uc, hu⟩ := S4.romForm List.mem_cons_self
                  obtain ⟨nu, hnu⟩ : ∃ nu, nu = (s :: out.drop (e + 1)).length := ⟨_, rfl⟩
                  rw [← hnu] at hu
                  subst hu
                  clear hnu
                  have S5 := S4.rowMadeR 9 1
                  obtain ⟨u1, w6, hr1, S6⟩ := Sp.appendRom 38 38 _ 16 infoStr0 rfl Tryz.underlying38 (by decide) (by decide) (show (⟨sz, 1, (out.take (e + 1)).map txRow⟩ : Rom) ∈ _ from List.mem_cons_of_mem _ List.mem_cons_self) tx_len tx_one (by have := HTL.out; omega) S5
                  obtain ⟨u2, w7, hr2, S7⟩ := Sp.appendRom 38 38 _ 16 infoStr0 rfl Tryz.underlying38 (by decide) (by decide) (List.mem_cons_self (a := txK (.slice ua nu uc) (s :: out.drop (e + 1)))) tx_len tx_one (by have h1 := HTL.out; have h2 := HDL.out; simp only [List.length_map, List.length_cons] at h1 h2 ⊢; omega) S6
                  have S8 := tx_more2 (l := out.take (e + 1)) (l2 := s :: out.drop (e + 1)) S7
                  obtain ⟨va, vc, hu2⟩ := S8.romForm List.mem_cons_self
                  obtain ⟨nv, hnv⟩ : ∃ nv, nv = (out.take (e + 1) ++ s :: out.drop (e + 1)).length := ⟨_, rfl⟩
                  rw [← hnv] at hu2
                  subst hu2
                  have HNV := Lib.hid hnv
                  have HS8 := Lib.hid S8
                  have HR0 := Lib.hid hr0
                  have HR1 := Lib.hid hr1
                  have HR2 := Lib.hid hr2
                  clear S1a S4 S5 S6 S7 S8 S9 hr0 hr1 hr2 HS3 HCC hsv hsz hdl htl hnv
                  go_upto_region 17 with (at_builtin; refine wpList_append_run (by rfl) (by rfl) (by rfl) (by rfl) HR0.out ?_)
                  go_wp2_with (first | (at_builtin; refine wpList_append_run (by rfl) (by rfl) (by rfl) (by rfl) HR1.out ?_) | (at_builtin; refine wpList_append_run (by rfl) (by rfl) (by rfl) (by rfl) HR2.out ?_))
                  go_roundw
                  case rel => exact ⟨j + 1, _, va, vc, out.take (e + 1) ++ s :: out.drop (e + 1), by go_num, by omega, by rw [← HNV.out], by rw [← HNV.out]; exact List.mem_cons_self, HINS.out (e + 1) hc HALL.out HLT.out, HS8.out⟩
                  case measure => simp [intOf]; omega
                | false =>
                  go_wp2_with fail
                  go_roundw
                  case rel => exact ⟨e, by go_num, by omega, fun i h h2 => (by rcases (by omega : e + 1 ≤ i ∨ i = e) with h3 | rfl; exact HALL.out i h h3; rw [← HY1.out]; exact HLQ.out), HS3.out⟩
                  case measure => simp [intOf]
            · obtain rfl : c = 0 := by omega
              have HLT : Hid (∀ (h : 0 < 0), mdLt (out[0 - 1]'(by omega)) s = true) := fun h => absurd h (by omega)
              have HCC := (HS3.out.romCut HQO.out (lo := 0) (hi := out.length) hc (by simp)).romCut (List.mem_cons_of_mem _ HQO.out) (lo := 0) (hi := 0) (Nat.zero_le _) (by simpa using hc)
              obtain ⟨sv, hsv⟩ : ∃ sv : Value, sv = .slice (if oc = 0 then oa else (oa : Option Addr).map (·.add (0 * 1))) (out.length - 0) (oc - 0) := ⟨_, rfl⟩
              obtain ⟨sz, hsz⟩ : ∃ sz : Value, sz = .slice (if oc = 0 then oa else (oa : Option Addr).map (·.add (0 * 1))) (0 - 0) (oc - 0) := ⟨_, rfl⟩
              have hcoc : 0 ≤ oc := by have := HS3.out.romCap HQO.out; omega
              have HSL := fun W => strs_from (a := oa) (n := out.length) (cap := oc) hc W
              have HSZ := fun W => strs_to (a := oa) (n := out.length) (cap := oc) hcoc W
              rw [← hsv, ← hsz] at HCC
              rw [← hsv] at HSL
              rw [← hsz] at HSZ
              have hcast : ((0 : Nat) : Int) = (0 : Int) := by omega
              simp only [hcast] at HSL HSZ
              rw [show ((out.map txRow).take out.length).drop 0 = (out.drop 0).map txRow by rw [List.take_of_length_le (by simp), List.map_drop], show ((out.map txRow).take 0).drop 0 = (out.take 0).map txRow by rw [List.drop_zero, List.map_take]] at HCC
              have hdl : ((out.drop 0).map txRow).length ≤ 1000000 := by rw [List.length_map, List.length_drop]; have := HOL.out; omega
              have htl : ((out.take 0).map txRow).length ≤ 1000000 := by rw [List.length_map, List.length_take]; have := HOL.out; omega
              have HDL := Lib.hid hdl
              have HTL := Lib.hid htl
              have S1a := HCC.rowLaid 9 1 1 [.string ⟨s.toArray⟩] rfl (by unfold maxLen; omega)
              obtain ⟨u, w9, hr0, S9⟩ := Sp.appendRom 38 38 _ 16 infoStr0 rfl Tryz.underlying38 (by decide) (by decide) (show (⟨sv, 1, (out.drop 0).map txRow⟩ : Rom) ∈ _ from List.mem_cons_of_mem _ List.mem_cons_self) tx_len tx_one (by have := HDL.out; omega) S1a
              have S4 := tx_more s (l := out.drop 0) S9
              obtain ⟨ua, uc, hu⟩ := S4.romForm List.mem_cons_self
              obtain ⟨nu, hnu⟩ : ∃ nu, nu = (s :: out.drop 0).length := ⟨_, rfl⟩
              rw [← hnu] at hu
              subst hu
              clear hnu
              have S5 := S4.rowMadeR 9 1
              obtain ⟨u1, w6, hr1, S6⟩ := Sp.appendRom 38 38 _ 16 infoStr0 rfl Tryz.underlying38 (by decide) (by decide) (show (⟨sz, 1, (out.take 0).map txRow⟩ : Rom) ∈ _ from List.mem_cons_of_mem _ List.mem_cons_self) tx_len tx_one (by have := HTL.out; omega) S5
              obtain ⟨u2, w7, hr2, S7⟩ := Sp.appendRom 38 38 _ 16 infoStr0 rfl Tryz.underlying38 (by decide) (by decide) (List.mem_cons_self (a := txK (.slice ua nu uc) (s :: out.drop 0))) tx_len tx_one (by have h1 := HTL.out; have h2 := HDL.out; simp only [List.length_map, List.length_cons] at h1 h2 ⊢; omega) S6
              have S8 := tx_more2 (l := out.take 0) (l2 := s :: out.drop 0) S7
              obtain ⟨va, vc, hu2⟩ := S8.romForm List.mem_cons_self
              obtain ⟨nv, hnv⟩ : ∃ nv, nv = (out.take 0 ++ s :: out.drop 0).length := ⟨_, rfl⟩
              rw [← hnv] at hu2
              subst hu2
              have HNV := Lib.hid hnv
              have HS8 := Lib.hid S8
              have HR0 := Lib.hid hr0
              have HR1 := Lib.hid hr1
              have HR2 := Lib.hid hr2
              clear S1a S4 S5 S6 S7 S8 S9 hr0 hr1 hr2 HS3 HCC hsv hsz hdl htl hnv
              go_upto_region 17 with (at_builtin; refine wpList_append_run (by rfl) (by rfl) (by rfl) (by rfl) HR0.out ?_)
              go_wp2_with (first | (at_builtin; refine wpList_append_run (by rfl) (by rfl) (by rfl) (by rfl) HR1.out ?_) | (at_builtin; refine wpList_append_run (by rfl) (by rfl) (by rfl) (by rfl) HR2.out ?_))
              go_roundw
              case rel => exact ⟨j + 1, _, va, vc, out.take 0 ++ s :: out.drop 0, by go_num, by omega, by rw [← HNV.out], by rw [← HNV.out]; exact List.mem_cons_self, HINS.out 0 hc HALL.out HLT.out, HS8.out⟩
              case measure => simp [intOf]; omega
        · have HST2 := Lib.hid (HST.out.trans (by rw [if_neg (by rw [HPK.out]; simp [hbx]), List.append_nil]))
          have hbx' : ((p1 : Int) != box) = true := by simpa using hbx
          clear hbx
          go_wp2_with fail
          go_roundw
          case rel => exact ⟨j + 1, K', oa, oc, out, by go_num, by omega, rfl, HQO.out, by rw [HST2.out]; exact HMS.out, HS3.out⟩
          case measure => simp [intOf]; omega
    · obtain rfl : j = l.length := by omega
      rw [List.take_length] at hms
      have HM2 := Lib.hid hms
      clear hms hqo S2
      go_wp2
      go_ret
      exact ⟨_, out, rfl, by rw [HMN.out]; exact HM2.out, (Sp.pick [_, _, _] [0, 2] (by decide) ((HS2.out.tkShut HQO.out)))⟩
end
end Go.Proofs.YtcffickkipicbaaGreatDoor
