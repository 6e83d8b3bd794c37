/- posthornref19.Name. No condition. -/
import Derived.Test.YtcffickkipicbaaGreatDoorR19
namespace Go.Proofs.YtcffickkipicbaaGreatDoor
open Go.RowKit Go.Sort

set_option maxRecDepth 100000 in
theorem r19Name_no1 (box : Int) (id : Nat) (rc : Int) (w : World) (h : box < 0) :
    Calls Tryz.prog 11 #[.int .i64 box, .int .u64 id, .int .i64 rc] w fun e w2 => e = .returned (.tuple #[.string ⟨#[]⟩, .int .i64 3]) ∧ w = w2 := by
  go_enter Tryz.func11, Tryz.ntmps11
  go_wp2
  go_ret2
  exact ⟨rfl, rfl⟩
set_option maxRecDepth 100000 in
theorem r19Name_no2 (box : Int) (id : Nat) (rc : Int) (w : World) (h0 : 0 ≤ box) (h : 99 < box) :
    Calls Tryz.prog 11 #[.int .i64 box, .int .u64 id, .int .i64 rc] w fun e w2 => e = .returned (.tuple #[.string ⟨#[]⟩, .int .i64 3]) ∧ w = w2 := by
  go_enter Tryz.func11, Tryz.ntmps11
  go_wp2
  go_ret2
  exact ⟨rfl, rfl⟩
set_option maxRecDepth 100000 in
theorem r19Name_no3 (box : Int) (id : Nat) (rc : Int) (w : World) (h0 : 0 ≤ box) (h1 : box ≤ 99) (h : id < 1) :
    Calls Tryz.prog 11 #[.int .i64 box, .int .u64 id, .int .i64 rc] w fun e w2 => e = .returned (.tuple #[.string ⟨#[]⟩, .int .i64 3]) ∧ w = w2 := by
  have h' : (id : Int) < 1 := by omega
  go_enter Tryz.func11, Tryz.ntmps11
  go_wp2
  go_ret2
  exact ⟨rfl, rfl⟩
set_option maxRecDepth 100000 in
theorem r19Name_no4 (box : Int) (id : Nat) (rc : Int) (w : World) (h0 : 0 ≤ box) (h1 : box ≤ 99) (_h2 : 1 ≤ id) (h : 1099511627776 < id) :
    Calls Tryz.prog 11 #[.int .i64 box, .int .u64 id, .int .i64 rc] w fun e w2 => e = .returned (.tuple #[.string ⟨#[]⟩, .int .i64 3]) ∧ w = w2 := by
  have h2' : (1 : Int) ≤ id := by omega
  have h' : (1099511627776 : Int) < id := by omega
  go_enter Tryz.func11, Tryz.ntmps11
  go_wp2
  go_ret2
  exact ⟨rfl, rfl⟩
set_option maxRecDepth 100000 in
theorem r19Name_no5 (box : Int) (id : Nat) (rc : Int) (w : World) (h0 : 0 ≤ box) (h1 : box ≤ 99) (h2 : 1 ≤ id) (h3 : id ≤ 1099511627776) (h : rc < 0) :
    Calls Tryz.prog 11 #[.int .i64 box, .int .u64 id, .int .i64 rc] w fun e w2 => e = .returned (.tuple #[.string ⟨#[]⟩, .int .i64 3]) ∧ w = w2 := by
  have h2' : (1 : Int) ≤ id := by omega
  have h3' : (id : Int) ≤ 1099511627776 := by omega
  go_enter Tryz.func11, Tryz.ntmps11
  go_wp2
  go_ret2
  exact ⟨rfl, rfl⟩
set_option maxRecDepth 100000 in
theorem r19Name_no6 (box : Int) (id : Nat) (rc : Int) (w : World) (h0 : 0 ≤ box) (h1 : box ≤ 99) (h2 : 1 ≤ id) (h3 : id ≤ 1099511627776) (h4 : 0 ≤ rc) (h : 9 < rc) :
    Calls Tryz.prog 11 #[.int .i64 box, .int .u64 id, .int .i64 rc] w fun e w2 => e = .returned (.tuple #[.string ⟨#[]⟩, .int .i64 3]) ∧ w = w2 := by
  have h2' : (1 : Int) ≤ id := by omega
  have h3' : (id : Int) ≤ 1099511627776 := by omega
  go_enter Tryz.func11, Tryz.ntmps11
  go_wp2
  go_ret2
  exact ⟨rfl, rfl⟩
set_option maxRecDepth 100000 in
set_option maxHeartbeats 1000000 in
theorem r19Name_yes (box id rc : Nat) (w : World) (h : mdOk box id rc) :
    Calls Tryz.prog 11 #[.int .i64 box, .int .u64 id, .int .i64 rc] w fun e w2 => e = .returned (.tuple #[.string ⟨(nameB box id rc).toArray⟩, .int .i64 0]) ∧ Ext [] w w2 := by
  have HN : Hid (nameB box id rc = Lib.decDigits box ++ 47 :: (Lib.decDigits id ++ 46 :: Lib.decDigits rc)) := by simp [nameB, Hid]
  obtain ⟨h0, h1, h2, h3, h4, h5⟩ := h
  have l1 := decDigits_len (n := box) (k := 2) (by decide) (by omega)
  have l2 := decDigits_len (n := id) (k := 13) (by decide) (by omega)
  have l3 := decDigits_len (n := rc) (k := 1) (by decide) (by omega)
  have hI1 : (1 : Int) ≤ id := by omega
  have hI2 : (id : Int) ≤ 1099511627776 := by omega
  have HB := Lib.hid (fun (w : World) => r10Num_any box w (by omega))
  have HF := Lib.hid (fun (w : World) => r10Num_any id w (by omega))
  have HT := Lib.hid (fun (w : World) => r10Num_any rc w (by omega))
  have hcw : IntKind.i64.wrap (id : Int) = (id : Int) := IntWalk.i64_in _ (by omega)
  generalize Lib.decDigits box = A at *
  generalize Lib.decDigits id = B at *
  generalize Lib.decDigits rc = C at *
  have a1 := add_str A [47] (by simp [maxLen]; omega)
  have a2 := add_str (A ++ [47]) B (by simp [maxLen]; omega)
  have a3 := add_str (A ++ 47 :: B) [46] (by simp [maxLen]; omega)
  have a4 := add_str (A ++ 47 :: (B ++ [46])) C (by simp [maxLen]; omega)
  clear l1 l2 l3 h2 h3
  go_enter Tryz.func11, Tryz.ntmps11
  go_wp2_with fail
  refine (HB.out _).mono ?_
  rintro e w1 ⟨rfl, hx1⟩
  have HX1 := Lib.hid hx1
  clear hx1
  go_wp2_with fail
  refine (HF.out _).mono ?_
  rintro e w2 ⟨rfl, hx2⟩
  have HX2 := Lib.hid hx2
  clear hx2
  go_wp2_with fail
  refine (HT.out _).mono ?_
  rintro e w3 ⟨rfl, hx3⟩
  have HX3 := Lib.hid hx3
  clear hx3
  go_wp2
  go_ret2
  rw [HN.out]
  exact ⟨rfl, (HX1.out.trans HX2.out (by simp)).trans HX3.out (by simp)⟩
theorem r19Name_any (box : Int) (id : Nat) (rc : Int) (w : World) :
    Calls Tryz.prog 11 #[.int .i64 box, .int .u64 id, .int .i64 rc] w fun e w2 => e = .returned (.tuple #[.string ⟨(mdName box id rc).1.toArray⟩, .int .i64 (mdName box id rc).2]) ∧ Ext [] w w2 := by
  by_cases h : mdOk box id rc
  · have h' := h
    obtain ⟨h0, h1, h2, h3, h4, h5⟩ := h'
    obtain ⟨b, rfl⟩ : ∃ b : Nat, box = b := ⟨box.toNat, by omega⟩
    obtain ⟨t, rfl⟩ : ∃ t : Nat, rc = t := ⟨rc.toNat, by omega⟩
    unfold mdName
    rw [if_pos h]
    exact r19Name_yes b id t w h
  · have hq : ∀ {e : Ending} {w2 : World}, (e = .returned (.tuple #[.string ⟨#[]⟩, .int .i64 3]) ∧ w = w2) → (e = .returned (.tuple #[.string ⟨(mdName box id rc).1.toArray⟩, .int .i64 (mdName box id rc).2]) ∧ Ext [] w w2) := fun {e w2} ⟨he, hw⟩ => by
      subst hw
      refine ⟨?_, Ext.refl _ _⟩
      rw [he]
      unfold mdName
      rw [if_neg h]
    by_cases c1 : box < 0
    · exact (r19Name_no1 box id rc w c1).mono fun _ _ h => hq h
    by_cases c2 : 99 < box
    · exact (r19Name_no2 box id rc w (by omega) c2).mono fun _ _ h => hq h
    by_cases c3 : id < 1
    · exact (r19Name_no3 box id rc w (by omega) (by omega) c3).mono fun _ _ h => hq h
    by_cases c4 : 1099511627776 < id
    · exact (r19Name_no4 box id rc w (by omega) (by omega) (by omega) c4).mono fun _ _ h => hq h
    by_cases c5 : rc < 0
    · exact (r19Name_no5 box id rc w (by omega) (by omega) (by omega) (by omega) c5).mono fun _ _ h => hq h
    by_cases c6 : 9 < rc
    · exact (r19Name_no6 box id rc w (by omega) (by omega) (by omega) (by omega) (by omega) c6).mono fun _ _ h => hq h
    · exact absurd ⟨by omega, by omega, by omega, by omega, by omega, by omega⟩ h
end Go.Proofs.YtcffickkipicbaaGreatDoor
