/- ServerTakes: for every input the call returns true, and each argument reads afterwards as it read before; Go's own tables read as the program's text lays them, which the card ties. And the arguments are of bulk at most 1048576. No other condition. -/
import Derived.Test.YtapenolbbofjkaaGreatDoorLad
import Derived.Test.YtapenolbbofjkaaGreatDoorLawTak
import Derived.Test.YtapenolbbofjkaaGreatDoorCards
import Derived.Test.YtapenolbbofjkaaGreatDoorTie
import Derived.SevenTiedAt
import Derived.Test.YtapenolbbofjkaaGreatDoorUptT
set_option linter.unusedSimpArgs false
set_option linter.unusedVariables false
set_option linter.unnecessarySimpa false
namespace Go.Proofs.YtapenolbbofjkaaGreatDoor
open Go.ChangeShapes Go.WideShapes Go.ChangeAt Go.RowKit Go.Deep
open Go.ChangeMaps (open_string shut_string)

set_option maxRecDepth 100000 in
theorem serverTakes_reads (os : Os) {H : Type} (enc : TypeId × Value → H) : ∃ places, DataW.whole enc Tryz.prog ((World.laidAll Tryz.prog os laidL).forCall (fun _ _ => 0) ⟨#[], #[.slice none 0 0, .int .i64 0], []⟩).memory Tryz.f4.params.toList Rows.serverTakesSpec.vars false (#[.slice none 0 0, .int .i64 0] : Array Value).toList 8 = some ([.nil, .lit (.int .i64 0)], [], places) :=
  ⟨[], by kernel_rfl⟩
set_option maxRecDepth 100000 in
theorem serverTakes_lifted (os : Os) (started : os.Started) (H : Type) (enc : TypeId × Value → H) (F : Stop.Interp) :
    ReturnsInHanded {} Tryz.checked os 4 .any ((Rows.OpenSpec.upto Rows.serverTakesSpec).preRow enc Tryz.prog Tryz.f4 Rows.serverTakesUptoRow.domain false Rows.serverTakesUptoRow.laid) (((Rows.OpenSpec.upto Rows.serverTakesSpec).at F).post enc Tryz.prog Tryz.f4 false true false false) := by
  obtain ⟨places, hx⟩ := serverTakes_reads os enc
  refine returnsInHanded_of_row (C := Tryz.checked) (s := Rows.OpenSpec.upto Rows.serverTakesSpec) laid_own started (by kernel_rfl) Tryz.func4
    (witness_upto (enc := enc) (C := Tryz.checked) (World.laidAll Tryz.prog os laidL) #[.slice none 0 0, .int .i64 0] (World.laidAll_os _ _ _) (World.shaped_of_ZipB (by kernel_rfl) (by kernel_rfl)) (by kernel_rfl)
      (OpenSpec.preRow_of_cond 8 hx rfl (fun k hk => by cases hk; kernel_rfl) (by kernel_rfl) (door_met os _))) ?_
  intro W base args ds gs before hval0 hW hcnd hk hsz hL hsh _
  have hval : ∀ (j : Nat) t v, Tryz.f4.params[j]? = some t → args[j]? = some v → Value.okWide Tryz.prog W .any base t v := hval0
  have hW' := hW
  obtain ⟨p, q, hA0, hV, rfl, hfz, hnd⟩ := hW
  have hA : DataW.TrodAll enc Tryz.prog W 0 (fun _ => true) true Tryz.f4.params.toList args.toList ds p := hA0
  rw [Tryz.params4] at hA hval
  obtain ⟨v0, vs0, d0, ds0, p0, q0, hargs, rfl, rfl, h0, r0⟩ := trodAll_cons hA
  obtain ⟨v1, vs1, d1, ds1, p1, q1, rfl, rfl, rfl, h1, r1⟩ := trodAll_cons r0
  obtain ⟨rfl, rfl, rfl⟩ := trodAll_nil r1
  obtain rfl : args = #[v0, v1] := by cases args; simp_all
  obtain ⟨rfl, rfl⟩ := trodVars_none hV
  have k0 := h0
  have lt0 : ∀ x ∈ p0, x.block < W.heap.size := by obtain ⟨m, hm⟩ := k0; exact DataW.trod_lt m _ _ _ hm
  obtain ⟨a0, len0, cap0, rfl⟩ := okWide_slice Tryz.underlying22 (hval 0 22 v0 rfl rfl)
  obtain ⟨l0, hl0, hz0⟩ : ∃ l, TextsAt W (.slice a0 len0 cap0) l ∧ ∀ s ∈ l, s.length ≤ Rows.uptoBulk d0 := by
    obtain ⟨fuel, hf⟩ := h0
    exact strs_bulk hf
  obtain ⟨a1, rfl, rfl, rfl, w1⟩ := open_int Tryz.underlying23 (hval 1 23 v1 rfl rfl) h1
  have bd1 : -9223372036854775808 ≤ a1 ∧ a1 ≤ 9223372036854775807 := by simpa [Lit.wf, IntKind.min, IntKind.max, IntKind.signed, IntKind.bits] using w1
  have hB := of_decide_eq_true (hk _ rfl)
  have hB0 : Rows.uptoBulk d0 ≤ 1048576 := Nat.le_trans (bulk_part (by simp)) hB
  have hs0 : ∀ s ∈ l0, s.length ≤ 1048576 := fun s hs => Nat.le_trans (hz0 s hs) hB0
  clear hA0 hval0
  refine (serverTakes_walk (.slice a0 len0 cap0) l0 a1 W (env_of_laid hL hsh) hl0 hs0 bd1).mono fun e W' ⟨he, hx⟩ => ?_
  subst he
  have bel : Below W.heap.size W W' := hx.below (Nat.le_refl _) (by simp)
  exact ⟨_, rfl, _, _, _, [], _, [], hW', trodAll_mk1 (shut_bool Tryz.underlying4 _), (trodAll_cons_mk (Below.trod laidOut (by kernel_rfl) (of_decide_eq_true (by kernel_rfl)) k0 bel lt0) (trodAll_cons_mk (shut_int Tryz.underlying23 w1) trodAll_mk0)), rfl, bel.frame _, fun h => by cases h⟩

theorem serverTakes_over : Rows.serverTakesUptoRow.holds Tryz.pinned (Rows.OpenSpec.upto Rows.serverTakesSpec) :=
  OpenClaim.holds_of_cond 4 Tryz.f4 rfl rfl rfl rfl rfl rfl rfl ⟨rfl, rfl, rfl, rfl, rfl⟩ rfl rfl rfl rfl rfl (by kernel_rfl) Tryz.func4 (by kernel_rfl)
    (of_decide_eq_true (by kernel_rfl)) (by unfold Func.isWrapper; first | (rw [if_pos (by decide +kernel)]; kernel_rfl) | (rw [if_neg (by decide +kernel)]; exact ⟨rfl, rfl⟩))
    (fun os started H enc _ F => by rw [OpenClaim.pre_eq_preRow]; exact serverTakes_lifted os started H enc F)

theorem serverTakes_holds : Rows.ServerTakesUptoSaid := serverTakes_over
theorem serverTakes_upto : Rows.ServerTakesUptoCardSaid :=
  Claim7.holds_tied_plain_at .later [] [.data, .data, .data, .data, .sentinel, .sentinel, .pinned] true (true, "6860827743f8a68521b3f3a06694c6b26e10b1af57f11ef6ec251b9ad5b1c076") true
    serverTakes_holds (fun _ h => by cases h) (by kernel_rfl) (fun _ h => by cases h) serverTakesUpto_row_tie rfl ⟨rfl, rfl⟩ (by kernel_rfl) rfl
    (fun f fn hf hfn => by
      obtain rfl : f = 4 := Option.some.inj ((show Tryz.prog.funcNamed Rows.serverTakesUptoRow.func = some 4 by kernel_rfl).symm.trans hf) |>.symm
      obtain rfl : fn = Tryz.f4 := (Option.some.inj (Tryz.func4.symm.trans hfn)).symm
      refine ⟨by kernel_rfl, fun j t ht => ?_⟩
      rw [Tryz.params4] at ht
      have hj : j < 2 := (Array.getElem?_eq_some_iff.1 ht).1
      obtain rfl | rfl : j = 0 ∨ j = 1 := by omega
      · have e : (22 : TypeId) = t := Option.some.inj ht
        have e2 : Tryz.prog.wantsStandIn 22 = false := by kernel_rfl
        subst e
        exact e2
      · have e : (23 : TypeId) = t := Option.some.inj ht
        have e2 : Tryz.prog.wantsStandIn 23 = false := by kernel_rfl
        subst e
        exact e2)
    (by kernel_rfl)
end Go.Proofs.YtapenolbbofjkaaGreatDoor
