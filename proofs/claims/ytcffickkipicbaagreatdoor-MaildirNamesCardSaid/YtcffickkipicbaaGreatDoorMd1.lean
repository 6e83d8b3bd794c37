/- maildir: Name, number. Conditions: the lengths fit. -/
import Derived.Test.YtcffickkipicbaaGreatDoorMdP
import Derived.Test.YtcffickkipicbaaGreatDoorFmt
import Derived.Laws.RangeAny
namespace Go.Proofs.YtcffickkipicbaaGreatDoor
open Go.RowKit Go.Sort

set_option maxRecDepth 100000 in
theorem mdName_no1 (box : Int) (id : Nat) (to : Int) (w : World) (h : box < 0) :
    Calls Tryz.prog 10 #[.int .i64 box, .int .u64 id, .int .i64 to] w fun e w2 => e = .returned (.tuple #[.string ⟨#[]⟩, .int .i64 3]) ∧ w = w2 := by
  go_enter Tryz.func10, Tryz.ntmps10
  go_wp2
  go_ret2
  exact ⟨rfl, rfl⟩
set_option maxRecDepth 100000 in
theorem mdName_no2 (box : Int) (id : Nat) (to : Int) (w : World) (h0 : 0 ≤ box) (h : 99 < box) :
    Calls Tryz.prog 10 #[.int .i64 box, .int .u64 id, .int .i64 to] w fun e w2 => e = .returned (.tuple #[.string ⟨#[]⟩, .int .i64 3]) ∧ w = w2 := by
  go_enter Tryz.func10, Tryz.ntmps10
  go_wp2
  go_ret2
  exact ⟨rfl, rfl⟩
set_option maxRecDepth 100000 in
theorem mdName_no3 (box : Int) (id : Nat) (to : Int) (w : World) (h0 : 0 ≤ box) (h1 : box ≤ 99) (h : id < 1) :
    Calls Tryz.prog 10 #[.int .i64 box, .int .u64 id, .int .i64 to] w fun e w2 => e = .returned (.tuple #[.string ⟨#[]⟩, .int .i64 3]) ∧ w = w2 := by
  have h' : (id : Int) < 1 := by omega
  go_enter Tryz.func10, Tryz.ntmps10
  go_wp2
  go_ret2
  exact ⟨rfl, rfl⟩
set_option maxRecDepth 100000 in
theorem mdName_no4 (box : Int) (id : Nat) (to : Int) (w : World) (h0 : 0 ≤ box) (h1 : box ≤ 99) (_h2 : 1 ≤ id) (h : 1099511627776 < id) :
    Calls Tryz.prog 10 #[.int .i64 box, .int .u64 id, .int .i64 to] w fun e w2 => e = .returned (.tuple #[.string ⟨#[]⟩, .int .i64 3]) ∧ w = w2 := by
  have h2' : (1 : Int) ≤ id := by omega
  have h' : (1099511627776 : Int) < id := by omega
  go_enter Tryz.func10, Tryz.ntmps10
  go_wp2
  go_ret2
  exact ⟨rfl, rfl⟩
set_option maxRecDepth 100000 in
theorem mdName_no5 (box : Int) (id : Nat) (to : Int) (w : World) (h0 : 0 ≤ box) (h1 : box ≤ 99) (h2 : 1 ≤ id) (h3 : id ≤ 1099511627776) (h : to < 0) :
    Calls Tryz.prog 10 #[.int .i64 box, .int .u64 id, .int .i64 to] w fun e w2 => e = .returned (.tuple #[.string ⟨#[]⟩, .int .i64 3]) ∧ w = w2 := by
  have h2' : (1 : Int) ≤ id := by omega
  have h3' : (id : Int) ≤ 1099511627776 := by omega
  go_enter Tryz.func10, Tryz.ntmps10
  go_wp2
  go_ret2
  exact ⟨rfl, rfl⟩
set_option maxRecDepth 100000 in
theorem mdName_no6 (box : Int) (id : Nat) (to : Int) (w : World) (h0 : 0 ≤ box) (h1 : box ≤ 99) (h2 : 1 ≤ id) (h3 : id ≤ 1099511627776) (h4 : 0 ≤ to) (h : 10 ≤ to) :
    Calls Tryz.prog 10 #[.int .i64 box, .int .u64 id, .int .i64 to] w fun e w2 => e = .returned (.tuple #[.string ⟨#[]⟩, .int .i64 3]) ∧ w = w2 := by
  have h2' : (1 : Int) ≤ id := by omega
  have h3' : (id : Int) ≤ 1099511627776 := by omega
  go_enter Tryz.func10, Tryz.ntmps10
  go_wp2
  go_ret2
  exact ⟨rfl, rfl⟩
set_option maxRecDepth 100000 in
set_option maxHeartbeats 1000000 in
theorem mdName_yes (box id to : Nat) (w : World) (E : Env w) (h : mdOk box id to) :
    Calls Tryz.prog 10 #[.int .i64 box, .int .u64 id, .int .i64 to] w fun e w2 => e = .returned (.tuple #[.string ⟨(nameB box id to).toArray⟩, .int .i64 0]) ∧ Grown w w2 := by
  have HN : Hid (nameB box id to = Lib.decDigits box ++ 47 :: (Lib.decDigits id ++ 46 :: Lib.decDigits to)) := by simp [nameB, Hid]
  obtain ⟨h0, h1, h2, h3, h4, h5⟩ := h
  have l1 := decDigits_len (n := box) (k := 2) (by decide) (by omega)
  have l2 := decDigits_len (n := id) (k := 13) (by decide) (by omega)
  have l3 := decDigits_len (n := to) (k := 1) (by decide) (by omega)
  have hI1 : (1 : Int) ≤ id := by omega
  have hI2 : (id : Int) ≤ 1099511627776 := by omega
  have HF : Hid (Calls Tryz.prog 43 #[.int .u64 id, .int .i64 10] w fun e w' => e = .returned (.string ⟨(Lib.decDigits id).toArray⟩) ∧ Grown w w') := formatUint id (by omega) w E
  have HB := Lib.hid (fun (w : World) => Tryz.strconv_Itoa_small box (by omega) w)
  have HT := Lib.hid (fun (w : World) => Tryz.strconv_Itoa_small to (by omega) w)
  generalize Lib.decDigits box = A at *
  generalize Lib.decDigits id = B at *
  generalize Lib.decDigits to = C at *
  have a1 := add_str A [47] (by simp [maxLen]; omega)
  have a2 := add_str (A ++ [47]) B (by simp [maxLen]; omega)
  have a3 := add_str (A ++ 47 :: B) [46] (by simp [maxLen]; omega)
  have a4 := add_str (A ++ 47 :: (B ++ [46])) C (by simp [maxLen]; omega)
  clear E l1 l2 l3 h2 h3
  go_enter Tryz.func10, Tryz.ntmps10
  go_wp2_with fail
  refine (HB.out _).mono ?_
  rintro e w1 ⟨rfl, rfl⟩
  go_wp2_with fail
  refine HF.out.mono ?_
  rintro e w2 ⟨rfl, hg⟩
  have HG := Lib.hid hg
  clear hg
  go_wp2_with fail
  refine (HT.out _).mono ?_
  rintro e w3 ⟨rfl, rfl⟩
  go_wp2
  go_ret2
  rw [HN.out]
  exact ⟨rfl, HG.out⟩
theorem mdName_any (box : Int) (id : Nat) (to : Int) (w : World) (E : Env w) :
    Calls Tryz.prog 10 #[.int .i64 box, .int .u64 id, .int .i64 to] w fun e w2 => e = .returned (.tuple #[.string ⟨(mdName box id to).1.toArray⟩, .int .i64 (mdName box id to).2]) ∧ Grown w w2 := by
  by_cases h : mdOk box id to
  · have h' := h
    obtain ⟨h0, h1, h2, h3, h4, h5⟩ := h'
    obtain ⟨b, rfl⟩ : ∃ b : Nat, box = b := ⟨box.toNat, by omega⟩
    obtain ⟨t, rfl⟩ : ∃ t : Nat, to = t := ⟨to.toNat, by omega⟩
    unfold mdName
    rw [if_pos h]
    exact mdName_yes b id t w E h
  · have hq : ∀ {e : Ending} {w2 : World}, (e = .returned (.tuple #[.string ⟨#[]⟩, .int .i64 3]) ∧ w = w2) → (e = .returned (.tuple #[.string ⟨(mdName box id to).1.toArray⟩, .int .i64 (mdName box id to).2]) ∧ Grown w w2) := fun {e w2} ⟨he, hw⟩ => by
      subst hw
      refine ⟨?_, Grown.refl _⟩
      rw [he]
      unfold mdName
      rw [if_neg h]
    by_cases c1 : box < 0
    · exact (mdName_no1 box id to w c1).mono fun _ _ h => hq h
    by_cases c2 : 99 < box
    · exact (mdName_no2 box id to w (by omega) c2).mono fun _ _ h => hq h
    by_cases c3 : id < 1
    · exact (mdName_no3 box id to w (by omega) (by omega) c3).mono fun _ _ h => hq h
    by_cases c4 : 1099511627776 < id
    · exact (mdName_no4 box id to w (by omega) (by omega) (by omega) c4).mono fun _ _ h => hq h
    by_cases c5 : to < 0
    · exact (mdName_no5 box id to w (by omega) (by omega) (by omega) (by omega) c5).mono fun _ _ h => hq h
    by_cases c6 : 10 ≤ to
    · exact (mdName_no6 box id to w (by omega) (by omega) (by omega) (by omega) (by omega) c6).mono fun _ _ h => hq h
    · exact absurd ⟨by omega, by omega, by omega, by omega, by omega, by omega⟩ h
end Go.Proofs.YtcffickkipicbaaGreatDoor
