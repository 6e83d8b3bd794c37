/- ClientDoes: for every input the call returns true, and each argument reads afterwards as it read before; Go's own tables read as the program's text lays them, which the card ties. No other condition. -/
import Derived.Test.YtldlbiodllgflaaGreatDoorLad
import Derived.Test.YtldlbiodllgflaaGreatDoorAct22
import Derived.Test.YtldlbiodllgflaaGreatDoorLawDoes22
import Derived.Lib.SmallJoins
import Derived.Test.YtldlbiodllgflaaGreatDoorCards
import Derived.Test.YtldlbiodllgflaaGreatDoorTie
import Derived.SevenTiedAt
set_option linter.unusedSimpArgs false
set_option linter.unusedVariables false
set_option linter.unnecessarySimpa false
namespace Go.Proofs.YtldlbiodllgflaaGreatDoor
open Go.ChangeShapes Go.WideShapes Go.ChangeAt Go.RowKit Go.Deep
open Go.ChangeMaps (open_string shut_string)

section
variable {H : Type} {enc : TypeId × Value → H} {w : World} {base : Nat} {spare : Nat → Bool} {held : Bool}
set_option maxRecDepth 100000 in
theorem box_of_trod {r : Reach} {b0 : Nat} {v : Value} {d : DataW H} {p : List MemPlace} (hv : Value.okWide Tryz.prog w r b0 23 v) (h : DataW.Trod enc Tryz.prog w base spare held 23 v d p) : ∃ m : Mb, v = mbAgg m ∧ (m.1.length ≤ maxLen ∧ m.2.length ≤ maxLen) := by
  obtain ⟨v0, v1, y0, y1, n, rfl, _, _, h0, h1⟩ := Go.Joins.open_agg2 Tryz.underlying23 (by kernel_rfl) (by kernel_rfl) hv h
  obtain ⟨z0, e0, _, w0⟩ := DataW.trod_string Tryz.underlying9 h0
  obtain ⟨z1, e1, _, w1⟩ := DataW.trod_string Tryz.underlying9 h1
  simp only [List.cons.injEq, and_true] at e0 e1
  subst e0 e1
  exact ⟨(z0.data.toList, z1.data.toList), rfl, by simpa using w0, by simpa using w1⟩
end
theorem clientDoes_walk2 (host : Bs) (fr : Mb) (tv : Value) (l : List BoxT) (body : Bs) (cv : Value) (codes : List Int) (w : World) (E : Env w) (hh : host.length ≤ maxLen) (hf : fr.1.length ≤ maxLen ∧ fr.2.length ≤ maxLen) (A : BoxTsAt w tv l) (hb : body.length ≤ maxLen) (I : Codes22 w cv codes) :
    Calls Tryz.prog 3 #[.string ⟨host.toArray⟩, mbAgg fr, tv, .string ⟨body.toArray⟩, cv] w fun e w2 => e = .returned (.bool true) ∧ Ext [] w w2 := clientDoes_walk host fr tv _ body cv codes w E hh hf.1 hf.2 (A.args hb) I

set_option maxRecDepth 100000 in
theorem clientDoes_lifted (os : Os) (started : os.Started) (H : Type) (enc : TypeId × Value → H) :
    ReturnsInHanded {} Tryz.checked os 3 .any (fun w args => (Rows.clientDoesSpec.pre enc Tryz.prog Tryz.f3 [] false w args ∧ laidMetH Tryz.prog laidL w) ∧ sizedMet enc Tryz.prog Tryz.f3 (OpenSpec.ofChange Rows.clientDoesSpec) false w args) (Rows.clientDoesSpec.post enc Tryz.prog Tryz.f3 false true false false) := by
  refine handed_laid (C := Tryz.checked) (X := fun w _ => laidMetH Tryz.prog laidL w) (fun _ _ _ hh h => h.of_heap hh) laid_own started (by kernel_rfl) Tryz.func3
    (ChangeSpec.witness_shaped (enc := enc) (C := Tryz.checked) (os := os) (X := fun w _ => laidMetH Tryz.prog laidL w) false (World.laidAll Tryz.prog os laidL) #[.string ⟨#[]⟩, .agg #[.string ⟨#[]⟩, .string ⟨#[]⟩], .slice none 0 0, .string ⟨#[]⟩, .slice none 0 0] 8 (World.laidAll_os _ _ _) (World.shaped_of_ZipB (by kernel_rfl) (by kernel_rfl)) (by kernel_rfl) (by kernel_rfl) (by kernel_rfl) (door_met os _)) ?_
  intro W base args ds gs before hval0 hW hcnd hL hsh
  have hval : ∀ (j : Nat) t v, Tryz.f3.params[j]? = some t → args[j]? = some v → Value.okWide Tryz.prog W .any base t v := hval0
  have hW' := hW
  obtain ⟨p, q, hA0, hV, rfl, hfz, hnd⟩ := hW
  have hA : DataW.TrodAll enc Tryz.prog W 0 (fun _ => true) true Tryz.f3.params.toList args.toList ds p := hA0
  rw [Tryz.params3] at hA hval
  obtain ⟨v0, vs0, d0, ds0, p0, q0, hargs, rfl, rfl, h0, r0⟩ := trodAll_cons hA
  obtain ⟨v1, vs1, d1, ds1, p1, q1, rfl, rfl, rfl, h1, r1⟩ := trodAll_cons r0
  obtain ⟨v2, vs2, d2, ds2, p2, q2, rfl, rfl, rfl, h2, r2⟩ := trodAll_cons r1
  obtain ⟨v3, vs3, d3, ds3, p3, q3, rfl, rfl, rfl, h3, r3⟩ := trodAll_cons r2
  obtain ⟨v4, vs4, d4, ds4, p4, q4, rfl, rfl, rfl, h4, r4⟩ := trodAll_cons r3
  obtain ⟨rfl, rfl, rfl⟩ := trodAll_nil r4
  obtain rfl : args = #[v0, v1, v2, v3, v4] := by cases args; simp_all
  obtain ⟨rfl, rfl⟩ := trodVars_none hV
  obtain ⟨s0, rfl, rfl, rfl, w0⟩ := open_string Tryz.underlying9 (hval 0 9 v0 rfl rfl) h0
  have k1 := h1
  have lt1 : ∀ x ∈ p1, x.block < W.heap.size := by obtain ⟨m, hm⟩ := k1; exact DataW.trod_lt m _ _ _ hm
  obtain ⟨a1, rfl, wf1⟩ := box_of_trod (hval 1 23 v1 rfl rfl) h1
  have k2 := h2
  have lt2 : ∀ x ∈ p2, x.block < W.heap.size := by obtain ⟨m, hm⟩ := k2; exact DataW.trod_lt m _ _ _ hm
  obtain ⟨a2, len2, cap2, rfl⟩ := okWide_slice Tryz.underlying24 (hval 2 24 v2 rfl rfl)
  obtain ⟨l2, hl2⟩ : ∃ l, BoxTsAt W (.slice a2 len2 cap2) l := by
    obtain ⟨fuel, hf⟩ := h2
    exact boxTs_of_trod0 hf
  obtain ⟨s3, rfl, rfl, rfl, w3⟩ := open_string Tryz.underlying9 (hval 3 9 v3 rfl rfl) h3
  have k4 := h4
  have lt4 : ∀ x ∈ p4, x.block < W.heap.size := by obtain ⟨m, hm⟩ := k4; exact DataW.trod_lt m _ _ _ hm
  obtain ⟨a4, len4, cap4, rfl⟩ := okWide_slice Tryz.underlying25 (hval 4 25 v4 rfl rfl)
  obtain ⟨l4, hl4⟩ : ∃ l, Codes22 W (.slice a4 len4 cap4) l := by
    obtain ⟨fuel, hf⟩ := h4
    exact ints_of_trod hf
  clear hA0 hval0
  refine (clientDoes_walk2 s0.data.toList a1 (.slice a2 len2 cap2) l2 s3.data.toList (.slice a4 len4 cap4) l4 W (env_of_laid hL hsh) (show s0.data.toList.length ≤ maxLen by simpa using w0) wf1 hl2 (show s3.data.toList.length ≤ maxLen by simpa using w3) hl4).mono fun e W' ⟨he, hx⟩ => ?_
  subst he
  have bel : Below W.heap.size W W' := hx.below (Nat.le_refl _) (by simp)
  exact ⟨_, rfl, _, _, _, [], _, [], hW', trodAll_mk1 (shut_bool Tryz.underlying4 _), (trodAll_cons_mk (shut_string Tryz.underlying9 w0) (trodAll_cons_mk (Below.trod laidOut (by kernel_rfl) (of_decide_eq_true (by kernel_rfl)) k1 bel lt1) (trodAll_cons_mk (Below.trod laidOut (by kernel_rfl) (of_decide_eq_true (by kernel_rfl)) k2 bel lt2) (trodAll_cons_mk (shut_string Tryz.underlying9 w3) (trodAll_cons_mk (Below.trod laidOut (by kernel_rfl) (of_decide_eq_true (by kernel_rfl)) k4 bel lt4) trodAll_mk0))))), rfl, bel.frame _, fun h => by cases h⟩

theorem clientDoes_over : Rows.clientDoesRow.holds Tryz.pinned (OpenSpec.ofChange Rows.clientDoesSpec) :=
  OpenClaim.holds_of_wide 3 Tryz.f3 rfl rfl rfl rfl rfl rfl rfl ⟨rfl, rfl, rfl, rfl, rfl⟩ rfl rfl rfl rfl rfl (by kernel_rfl) Tryz.func3 (by kernel_rfl)
    (of_decide_eq_true (by kernel_rfl)) (by unfold Func.isWrapper; first | (rw [if_pos (by decide +kernel)]; kernel_rfl) | (rw [if_neg (by decide +kernel)]; exact ⟨rfl, rfl⟩))
    (fun os started H enc _ => clientDoes_lifted os started H enc)

theorem clientDoes_holds : Rows.ClientDoesSaid := clientDoes_over
theorem clientDoes_card : Rows.ClientDoesCardSaid :=
  Claim7.holds_tied_plain_at .later [] [.data, .data, .data, .data, .pinned] true (true, "458b3f7b835326ffcb33a9ef1444bcc4243898e86dafaca732df3a15a9fe39dd") true
    clientDoes_holds (fun _ h => by cases h) (by kernel_rfl) (fun _ h => by cases h) clientDoes_row_tie rfl ⟨rfl, rfl⟩ (by kernel_rfl) rfl
    (fun f fn hf hfn => by
      obtain rfl : f = 3 := Option.some.inj ((show Tryz.prog.funcNamed Rows.clientDoesRow.func = some 3 by kernel_rfl).symm.trans hf) |>.symm
      obtain rfl : fn = Tryz.f3 := (Option.some.inj (Tryz.func3.symm.trans hfn)).symm
      refine ⟨by kernel_rfl, fun j t ht => ?_⟩
      rw [Tryz.params3] at ht
      have hj : j < 5 := (Array.getElem?_eq_some_iff.1 ht).1
      obtain rfl | rfl | rfl | rfl | rfl : j = 0 ∨ j = 1 ∨ j = 2 ∨ j = 3 ∨ j = 4 := by omega
      · have e : (9 : TypeId) = t := Option.some.inj ht
        have e2 : Tryz.prog.wantsStandIn 9 = false := by kernel_rfl
        subst e
        exact e2
      · have e : (23 : TypeId) = t := Option.some.inj ht
        have e2 : Tryz.prog.wantsStandIn 23 = false := by kernel_rfl
        subst e
        exact e2
      · have e : (24 : TypeId) = t := Option.some.inj ht
        have e2 : Tryz.prog.wantsStandIn 24 = false := by kernel_rfl
        subst e
        exact e2
      · have e : (9 : TypeId) = t := Option.some.inj ht
        have e2 : Tryz.prog.wantsStandIn 9 = false := by kernel_rfl
        subst e
        exact e2
      · have e : (25 : TypeId) = t := Option.some.inj ht
        have e2 : Tryz.prog.wantsStandIn 25 = false := by kernel_rfl
        subst e
        exact e2)
    (by kernel_rfl)
end Go.Proofs.YtldlbiodllgflaaGreatDoor
