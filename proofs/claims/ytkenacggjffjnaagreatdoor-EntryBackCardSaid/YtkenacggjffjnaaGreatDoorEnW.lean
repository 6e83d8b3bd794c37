/- entry: mailboxes, recipients, whether an entry may be. Conditions: the lengths fit; what Go's variables hold. -/
import Derived.Test.YtkenacggjffjnaaGreatDoorEnS
import Derived.Test.YtkenacggjffjnaaGreatDoorGen
import Derived.Shelf.SlicesQ.IndexFunc
set_option linter.unusedSimpArgs false
set_option linter.unusedVariables false
set_option linter.unnecessarySimpa false
namespace Go.Proofs.YtkenacggjffjnaaGreatDoor
open Go.RowKit

section
variable {w0 w : World} {L : List Res} {b : Nat} {v : Value} {e : En}
set_option maxRecDepth 100000 in
set_option maxHeartbeats 1000000 in
theorem enMailboxS (m : Mb) (S : Sp w0 [] w L) (E : Env w0) (h1 : m.1.length ≤ 1000000) (h2 : m.2.length ≤ 1000000) : Calls Tryz.prog 51 #[mbAgg m] w fun e w2 => e = .returned (.bool (mbMay m)) ∧ Sp w0 [] w2 L := by
  obtain ⟨l, d⟩ := m
  have HS0 := Lib.hid (S.box (mbCells (l, d)) 24)
  have HM := Lib.hid (fun (w' : World) (S' : Sp w0 [] w' (boxR w.heap.size (mbCells (l, d)) 24 :: L)) => mayS (l, d) S' E h1 h2)
  unfold mbAgg at *
  unfold mbCells at HS0
  dsimp only at *
  clear S E h1 h2
  go_enter Tryz.func51, Tryz.ntmps51
  go_wp2_with fail
  refine (HM.out _ HS0.out).mono ?_
  rintro e w2 ⟨rfl, S⟩
  have HS2 := Lib.hid S.drop
  clear S HS0 HM
  go_wp2
  go_ret
  exact ⟨rfl, HS2.out⟩

/-- Recipients that fit the machine. -/
def Rcp.Fit (x : Rcp) : Prop := x.1.1.length ≤ 1000000 ∧ x.1.2.length ≤ 1000000 ∧ -9223372036854775808 ≤ x.2 ∧ x.2 ≤ 9223372036854775807
def rcAgg (x : Rcp) : Value := .agg #[.string ⟨x.1.1.toArray⟩, .string ⟨x.1.2.toArray⟩, .int .i64 x.2]
set_option maxRecDepth 100000 in
set_option maxHeartbeats 1000000 in
theorem enBad_any (x : Rcp) (S : Sp w0 [] w L) (E : Env w0) (h : x.Fit) : Calls Tryz.prog 84 #[rcAgg x] w fun e w2 => e = .returned (.bool (!rcMay x)) ∧ Sp w0 [] w2 L := by
  obtain ⟨⟨l, d⟩, s⟩ := x
  obtain ⟨h1, h2, h3, h4⟩ := h
  dsimp only at *
  have HS0 := Lib.hid (S.box #[.string ⟨l.toArray⟩, .string ⟨d.toArray⟩, .int .i64 s] 62)
  have HM := Lib.hid (fun (w' : World) (L' : List Res) (S' : Sp w0 [] w' L') => enMailboxS (l, d) S' E h1 h2)
  have HV : Hid (rcMay ((l, d), s) = (mbMay (l, d) && decide (0 ≤ s) && decide (s ≤ 2))) := rfl
  unfold rcAgg
  unfold mbAgg at HM
  dsimp only at *
  clear S E h1 h2
  go_enter Tryz.func84, Tryz.ntmps84
  go_upto_region 1 with (fail)
  generalize w.alloc (.cells #[.string ⟨l.toArray⟩, .string ⟨d.toArray⟩, .int .i64 s] 62) = w1 at *
  generalize w.heap.size = q at *
  have c0 := HS0.out.cell
  go_wp2_with fail
  refine (HM.out _ _ HS0.out).mono ?_
  rintro e w2 ⟨rfl, S⟩
  generalize mbMay (l, d) = m at *
  have c1 := S.cell
  have HS2 := Lib.hid S.drop
  clear S HS0 HM c0
  cases m with
  | false =>
    have HW : Hid (rcMay ((l, d), s) = false) := by unfold Hid; rw [HV.out]; rfl
    go_wp2
    go_ret
    exact ⟨by rw [HW.out]; rfl, HS2.out⟩
  | true =>
    go_wp2
    all_goals
      go_ret
      refine ⟨ret_bool ?_, HS2.out⟩
      rw [HV.out, Bool.eq_iff_iff]
      simp
      first | done | omega
abbrev RcpF := {x : Rcp // x.Fit}
instance : Inhabited RcpF := ⟨⟨(([], []), 0), by unfold Rcp.Fit; decide⟩⟩
theorem rcpFs : ∀ l : List Rcp, (∀ x ∈ l, x.Fit) → ∃ zs : List RcpF, zs.map (·.1) = l
  | [], _ => ⟨[], rfl⟩
  | s :: l, h => by
    obtain ⟨zs, hz⟩ := rcpFs l fun t ht => h t (by simp [ht])
    exact ⟨⟨s, h s (by simp)⟩ :: zs, by simp [hz]⟩
theorem cell_lt {b o : Nat} {x : Value} (h : w.cell? ⟨b, o, none⟩ = some x) : b < w.heap.size := by
  apply Classical.byContradiction
  intro hn
  have h2 : w.heap[b]? = none := Array.getElem?_eq_none (by omega)
  simp [World.cell?, h2] at h
theorem anyBadS (l : List Rcp) (h0 : l ≠ []) (hn : l.length ≤ 1000) (hf : ∀ x ∈ l, x.Fit) (T : TosAt w v l) (S : Sp w0 [] w L) (E : Env w0) : Calls Tryz.prog 83 #[v, .func (.func 84) #[] #[]] w fun e w2 => e = .returned (.bool (l.any fun x => !rcMay x)) ∧ Sp w0 [] w2 L := by
  obtain ⟨zs, rfl⟩ := rcpFs l hf
  obtain ⟨a, cap, rfl⟩ := T.form
  have eg : ∀ args w, (callFunc 84 args).run Tryz.prog w = .ok (.enter 84 args) w := enters_of Tryz.func84 (by kernel_rfl) rfl
  obtain ⟨b, off, rfl, _⟩ := T.at (i := 0) (by simp at h0 ⊢; exact List.length_pos_iff.2 h0)
  have hlt : b < w.heap.size := by
    obtain ⟨b2, o2, h1, h2, _⟩ := T.at (i := 0) (by simp at h0 ⊢; exact List.length_pos_iff.2 h0)
    cases h1
    exact cell_lt h2
  have hp : PredBelow Tryz.prog 84 #[] (fun x : RcpF => .agg x.1.vals.toArray) (fun x => !rcMay x.1) w := fun W x hb => (enBad_any (w0 := W) (L := []) x.1 (Sp.nil W []) (E.ext (S.ext.trans (Ext.of_below hb) (by simp))) x.2).mono fun _ _ ⟨he, hx⟩ => ⟨he, hb.trans ((hx.ext.below (Nat.le_refl _) (by simp)).mono hb.size)⟩
  refine (AnyQ.slices_ContainsFunc Tryz.conT 3 (fun w => by kernel_rfl) (fun w => by kernel_rfl) (fun x : RcpF => x.1.vals) (fun _ => rfl) (fun x => !rcMay x.1) _ #[] eg b off _ cap zs w hp (by simp) (by rw [List.length_map] at *; omega) hlt (fun j hj i u hu => ?_)).mono ?_
  · obtain ⟨a2, cap2, h1, h2⟩ := T
    cases h1
    have hr : ((zs.map (·.1)).map Rcp.vals)[j]? = some (zs[j]!).1.vals := by rw [List.map_map, List.getElem?_map, List.getElem?_eq_getElem hj, getElem!_pos zs j hj]; rfl
    exact h2.at j _ hr i u hu
  · rintro e w2 ⟨rfl, hb⟩
    refine ⟨?_, S.ext0 (Ext.of_below hb)⟩
    rw [List.any_map, List.length_map, List.take_length]
    rfl
set_option maxRecDepth 100000 in
set_option maxHeartbeats 1000000 in
theorem enRecipientsS (l : List Rcp) (hn : l.length ≤ 1000) (hf : ∀ x ∈ l, x.Fit) (T : TosAt w v l) (S : Sp w0 [] w L) (E : Env w0) : Calls Tryz.prog 52 #[v] w fun e w2 => e = .returned (.bool (rcsMay l)) ∧ Sp w0 [] w2 L := by
  have hn' : (l.length : Int) ≤ 1000 := by omega
  have HA := Lib.hid (fun h0 => anyBadS l h0 hn hf T S E)
  have HS := Lib.hid S
  have HV : Hid (rcsMay l = (decide (1 ≤ l.length) && decide (l.length ≤ 10) && l.all rcMay)) := rfl
  obtain ⟨a, cap, rfl⟩ := T.form
  clear S E T hf hn
  by_cases h0 : l = []
  · subst h0
    have HW : Hid (rcsMay [] = false) := rfl
    go_enter Tryz.func52, Tryz.ntmps52
    go_wp2
    go_ret
    exact ⟨by rw [HW.out]; rfl, HS.out⟩
  · have h1 : 1 ≤ l.length := List.length_pos_iff.2 h0
    have h1' : (0 : Int) < l.length := by omega
    by_cases h2 : l.length ≤ 10
    · have h2' : (l.length : Int) ≤ 10 := by omega
      have HW : Hid (rcsMay l = !(l.any fun x => !rcMay x)) := by
        unfold Hid
        rw [HV.out, decide_eq_true h1, decide_eq_true h2, List.not_any_eq_all_not]
        simp
      have HA2 := Lib.hid (HA.out h0)
      generalize (l.any fun x => !rcMay x) = q at *
      clear h0 h1 h2 HA
      go_enter Tryz.func52, Tryz.ntmps52
      go_wp2_with fail
      refine HA2.out.mono ?_
      rintro e w2 ⟨rfl, S⟩
      have HS2 := Lib.hid S
      clear S
      go_wp2
      go_ret
      exact ⟨by rw [HW.out]; rfl, HS2.out⟩
    · have h2' : (10 : Int) < l.length := by omega
      have HW : Hid (rcsMay l = false) := by
        unfold Hid
        rw [HV.out, decide_eq_false h2]
        simp
      clear h0 h1 h2 HA
      go_enter Tryz.func52, Tryz.ntmps52
      go_wp2
      go_ret
      exact ⟨by rw [HW.out]; exact ret_bool (by simp), HS.out⟩
end
end Go.Proofs.YtkenacggjffjnaaGreatDoor
