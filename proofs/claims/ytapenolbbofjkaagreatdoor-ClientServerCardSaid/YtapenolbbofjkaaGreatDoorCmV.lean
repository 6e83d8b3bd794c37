/- cmd's reader: spaces, value, rest, word. Conditions: the lengths fit; what Go's variables hold. cmd's reader: word, path. Conditions: the lengths fit; what Go's variables hold. cmd's reader: path, box. Conditions: the lengths fit; what Go's variables hold. cmd's reader: size. Conditions: the lengths fit; what Go's variables hold. cmd's reader: size, body. Conditions: the lengths fit; what Go's variables hold. cmd's reader: body. Conditions: the lengths fit; what Go's variables hold. cmd's reader: mail. Conditions: the lengths fit; what Go's variables hold. cmd's reader: more. Conditions: the lengths fit; what Go's variables hold. cmd's reader: more at Rcpt; more at every verb. Conditions: the lengths fit; what Go's variables hold. cmd.Parse. Conditions: the lengths fit; what Go's variables hold. -/
import Derived.Test.YtapenolbbofjkaaGreatDoorCmW6
import Derived.Lib.ParseIntB
import Derived.Shelf.Strings.SlTrimAscii
import Derived.Deep.LoopGhost
/-! CmV -/
set_option linter.unusedSimpArgs false
set_option linter.unusedVariables false
set_option linter.unnecessarySimpa false
namespace Go.Proofs.YtapenolbbofjkaaGreatDoor
open Go.RowKit

section
variable {w0 w : World} {L : List Res} {b : Nat}
/-- The reader: what is left, and how words are compared. -/
abbrev crdR (b : Nat) (s : Bs) : Res := boxR b #[.string ⟨s.toArray⟩, .func (.func 115) #[] #[]] 150
theorem spR_len (s : Bs) : (spR s).length ≤ s.length := (List.dropWhile_sublist _).length_le
theorem spR_pos (s : Bs) : decide ((spR s).length < s.length) = (s.head? == some 32) := by
  cases s with
  | nil => rfl
  | cons c r =>
    by_cases hc : c = 32
    · subst hc
      have := spR_len r
      rw [spR_cons]
      simp
      omega
    · rw [spR_stop hc]
      simp [hc]
set_option maxRecDepth 100000 in
set_option maxHeartbeats 1000000 in
theorem spacesS (s : Bs) (hs : s.length ≤ 1000000) (S : Sp w0 [] w (crdR b s :: L)) : Calls Tryz.prog 138 #[.pointer (some ⟨b, 0, none⟩)] w fun e w2 => e = .returned (.bool (s.head? == some 32)) ∧ Sp w0 [] w2 (crdR b (spR s) :: L) := by
  have c0 := S.cell 0
  have f0 := S.free 0
  have HSET := Lib.hid (S.set (o := 0) (.string ⟨(spR s).toArray⟩))
  have HT := Lib.hid (trimLS s w)
  have HP := Lib.hid (spR_pos s)
  have hl := spR_len s
  have hs' : (s.length : Int) ≤ 1000000 := by omega
  have hl' : ((spR s).length : Int) ≤ s.length := by omega
  clear S hs
  generalize spR s = r at *
  go_enter Tryz.func138, Tryz.ntmps138
  go_wp2_with fail
  refine HT.out.mono ?_
  rintro e w2 ⟨rfl, rfl⟩
  go_wp2
  go_ret
  refine ⟨ret_bool ?_, HSET.out⟩
  rw [← HP.out, Bool.eq_iff_iff] <;> (simp <;> omega)
theorem cut_val (s : Bs) : (Lib.cut s [32]).1 = valB s := by
  have h := Lib.index_ge s [32]
  induction s with
  | nil => rfl
  | cons c r ih =>
    have hi := index_one_cons c 32 r
    have ih := ih (Lib.index_ge r [32])
    unfold Lib.cut at ih ⊢
    unfold valB at ih ⊢
    by_cases hc : c = 32
    · subst hc
      rw [if_pos rfl] at hi
      rw [hi]
      simp
    · rw [if_neg hc] at hi
      have hg := Lib.index_ge r [32]
      have e2 : (c :: r).takeWhile (fun c => !c == 32) = c :: r.takeWhile fun c => !c == 32 := by rw [List.takeWhile_cons, if_pos (by simpa using hc)]
      rw [e2, ← ih]
      by_cases hm : Lib.index r [32] = -1
      · have e : Lib.index (c :: r) [32] = -1 := by rw [hi, hm]; rfl
        rw [e, hm]
        rfl
      · have e : Lib.index (c :: r) [32] = Lib.index r [32] + 1 := by rw [hi, if_neg (by simpa using hm)]
        have this : (Lib.index r [32] + 1).toNat = (Lib.index r [32]).toNat + 1 := by omega
        rw [e, if_pos (by omega), if_pos (by omega)]
        dsimp only
        rw [this, List.take_succ_cons]
theorem cutS1 (s : Bs) (S : Sp w0 [] w L) (E : Env w0) (hs : s.length ≤ 1000000) : Calls Tryz.prog 63 #[.string ⟨s.toArray⟩, .string ⟨#[32]⟩] w fun e w2 => e = .returned (.tuple #[.string ⟨(valB s).toArray⟩, .string ⟨(Lib.cut s [32]).2.1.toArray⟩, .bool (Lib.cut s [32]).2.2]) ∧ Sp w0 [] w2 L := by
  obtain ⟨m, hm⟩ := (E.sp S).max
  refine (Tryz.strings_Cut ⟨s.toArray⟩ ⟨#[32]⟩ m w (by show s.length < _; omega) hm).mono fun e w2 ⟨he, n, hw⟩ => ⟨?_, by rw [hw]; exact S.drewN n⟩
  rw [he, show (ByteArray.mk s.toArray).data.toList = s from rfl, show (ByteArray.mk #[32]).data.toList = [32] from rfl, cut_val]
theorem valB_len (s : Bs) : (valB s).length ≤ s.length := (List.takeWhile_sublist _).length_le
theorem cut_drop (s : Bs) (n : Nat) (hn : n ≤ s.length) : (ByteArray.mk s.toArray).extract n s.length = ⟨(s.drop n).toArray⟩ := by
  rw [Lib.extract_mk, List.take_of_length_le (by simp)]
theorem cut_take (s : Bs) (n : Nat) : (ByteArray.mk s.toArray).extract 0 n = ⟨(s.take n).toArray⟩ := by
  rw [Lib.extract_mk]; simp
set_option maxRecDepth 100000 in
set_option maxHeartbeats 1000000 in
theorem valueS (s : Bs) (hs : s.length ≤ 1000000) (S : Sp w0 [] w (crdR b s :: L)) (E : Env w0) : Calls Tryz.prog 117 #[.pointer (some ⟨b, 0, none⟩)] w fun e w2 => e = .returned (.string ⟨(valB s).toArray⟩) ∧ Sp w0 [] w2 (crdR b (valR s) :: L) := by
  have c0 := S.cell 0
  have HC := Lib.hid (cutS1 s S E hs)
  have hl := valB_len s
  have hd := cut_drop s (valB s).length hl
  have HR : Hid (valR s = s.drop (valB s).length) := rfl
  rw [← HR.out] at hd
  have hs' : (s.length : Int) ≤ 1000000 := by omega
  have hl' : ((valB s).length : Int) ≤ s.length := by omega
  clear S hs E
  generalize valB s = x at *
  generalize valR s = r at *
  go_enter Tryz.func117, Tryz.ntmps117
  go_wp2_with fail
  refine HC.out.mono ?_
  rintro e w2 ⟨rfl, S2⟩
  clear c0
  have c0 := S2.cell 0
  have f0 := S2.free 0
  have HSET := Lib.hid (S2.set (o := 0) (.string ⟨r.toArray⟩))
  clear S2
  go_wp2
  go_ret
  exact ⟨rfl, HSET.out⟩
set_option maxRecDepth 100000 in
set_option maxHeartbeats 1000000 in
theorem restS (s : Bs) (hs : s.length ≤ 1000000) (S : Sp w0 [] w (crdR b s :: L)) : Calls Tryz.prog 135 #[.pointer (some ⟨b, 0, none⟩)] w fun e w2 => e = .returned (.string ⟨(trimSp s).toArray⟩) ∧ Sp w0 [] w2 (crdR b [] :: L) := by
  have c0 := S.cell 0
  have HT := Lib.hid (trimS1 s S hs)
  clear S hs
  generalize trimSp s = x at *
  go_enter Tryz.func135, Tryz.ntmps135
  go_wp2_with fail
  refine HT.out.mono ?_
  rintro e w2 ⟨rfl, S2⟩
  clear c0
  have c0 := S2.cell 0
  have f0 := S2.free 0
  have HSET := Lib.hid (S2.set (o := 0) (.string ⟨#[]⟩))
  clear S2
  go_wp2
  go_ret
  exact ⟨rfl, HSET.out⟩
set_option maxRecDepth 100000 in
theorem sameS (x y : Bs) (w : World) (hs : x.length ≤ 1000000) : Calls Tryz.prog 115 #[.string ⟨x.toArray⟩, .string ⟨y.toArray⟩] w fun e w2 => e = .returned (.bool (greatB x == y)) ∧ Ext [] w w2 := by
  have HG := Lib.hid (great_any x w hs)
  generalize greatB x = gx at *
  go_enter Tryz.func115, Tryz.ntmps115
  go_wp2_with fail
  refine HG.out.mono ?_
  rintro e w2 ⟨rfl, hx⟩
  have HX := Lib.hid hx
  clear hx
  go_wp2
  go_ret
  exact ⟨rfl, HX.out⟩
end
end Go.Proofs.YtapenolbbofjkaaGreatDoor

/-! CmV2 -/
namespace Go.Proofs.YtapenolbbofjkaaGreatDoor
open Go.RowKit

/-- What word hands back. -/
def OutW (b : Nat) (w0 : World) (L : List Res) (s : Bs) (o : Option Bs) (e : Ending) (w2 : World) : Prop :=
  match o with
  | some r => e = .returned (.bool true) ∧ Sp w0 [] w2 (crdR b r :: L)
  | none => e = .returned (.bool false) ∧ Sp w0 [] w2 (crdR b s :: L)
section
variable {w0 w : World} {L : List Res} {b : Nat}
theorem sameSp (x y : Bs) (S : Sp w0 [] w L) (hs : x.length ≤ 1000000) : Calls Tryz.prog 115 #[.string ⟨x.toArray⟩, .string ⟨y.toArray⟩] w fun e w2 => e = .returned (.bool (greatB x == y)) ∧ Sp w0 [] w2 L :=
  (sameS x y w hs).mono fun _ _ ⟨he, hx⟩ => ⟨he, S.ext0 hx⟩
set_option maxRecDepth 100000 in
set_option maxHeartbeats 2000000 in
theorem wordS (x s : Bs) (hs : s.length ≤ 1000000) (hx : x.length ≤ 1000) (S : Sp w0 [] w (crdR b s :: L)) : Calls Tryz.prog 150 #[.pointer (some ⟨b, 0, none⟩), .string ⟨x.toArray⟩] w (OutW b w0 L s (rdWord x s)) := by
  have HS := Lib.hid S
  have hs' : (s.length : Int) ≤ 1000000 := by omega
  have hx' : (x.length : Int) ≤ 1000 := by omega
  have HD : Hid (rdWord x s = if x.length ≤ s.length ∧ greatB (s.take x.length) = x then some (s.drop x.length) else none) := rfl
  have c0 := S.cell
  have f0 := S.free
  have HZ := Lib.hid hs
  clear S hs hx
  by_cases hl : x.length ≤ s.length
  · have hl' : (x.length : Int) ≤ s.length := by omega
    have hd : decide (s.length < x.length) = false := by simpa using hl
    have he1 := cut_take s x.length
    have he2 := cut_drop s x.length hl
    have HTL : Hid ((s.take x.length).length ≤ 1000000) := by have := HZ.out; unfold Hid; simp; omega
    by_cases hg : greatB (s.take x.length) = x
    · have HV : Hid (rdWord x s = some (s.drop x.length)) := by unfold Hid; rw [HD.out, if_pos ⟨hl, hg⟩]
      have HG : Hid ((greatB (s.take x.length) == x) = true) := by unfold Hid; simpa using hg
      have HSET := Lib.hid (HS.out.set (o := 0) (.string ⟨(s.drop x.length).toArray⟩))
      clear hg
      rw [HV.out]
      go_enter Tryz.func150, Tryz.ntmps150
      go_wp2_with fail
      refine wp_region_text (S := fun wx => Sp w0 [] wx (boxR b #[.string ⟨s.toArray⟩, .func (.func 115) #[] #[]] 150 :: L) ∧ (∀ o, wx.cell? ⟨b, o, none⟩ = (#[.string ⟨s.toArray⟩, .func (.func 115) #[] #[]])[o]?)) (by kernel_rfl) (by kernel_rfl) ⟨(HS.out).drew, (Sp.pick [_] [0] (by decide) ((HS.out).drew)).cell⟩ ?_
      repeat
        refine Exists.intro ?_ (And.intro (fun wS hS K hK => ?_) (And.intro ?_ ?_))
        rotate_left 1
        · obtain ⟨hS1, hS2⟩ := hS
          first
            | (refine if_unwanted rfl ?_; simp only [Act.put, List.setIfInBounds_toArray, List.set_cons_zero, List.set_cons_succ]; exact hK.out _ ⟨hS1, hS2⟩)
            | (refine if_wanted rfl ?_; go_simp; exact hK.out _ ⟨hS1, hS2⟩)
            | (refine if_wanted rfl ?_; go_simp; go_at_call 115; refine (sameSp (s.take x.length) x hS1 HTL.out).mono ?_; rw [HG.out]; rintro e w12 ⟨rfl, S12⟩; exact hK.out _ ⟨S12, (Sp.pick [_] [0] (by decide) (S12)).cell⟩)
        · rfl
      intro wE hE
      have HSE := Lib.hid hE.1
      clear hE
      have c1 := HSE.out.cell
      have f1 := HSE.out.free
      have HSF := Lib.hid (HSE.out.set (o := 0) (.string ⟨(s.drop x.length).toArray⟩))
      clear c0 f0
      go_wp2
      go_ret
      exact ⟨rfl, HSF.out⟩
    · have HV : Hid (rdWord x s = none) := by unfold Hid; rw [HD.out, if_neg fun h => hg h.2]
      have HG : Hid ((greatB (s.take x.length) == x) = false) := by unfold Hid; simpa using hg
      clear hg
      rw [HV.out]
      go_enter Tryz.func150, Tryz.ntmps150
      go_wp2_with fail
      refine wp_region_text (S := fun wx => Sp w0 [] wx (boxR b #[.string ⟨s.toArray⟩, .func (.func 115) #[] #[]] 150 :: L) ∧ (∀ o, wx.cell? ⟨b, o, none⟩ = (#[.string ⟨s.toArray⟩, .func (.func 115) #[] #[]])[o]?)) (by kernel_rfl) (by kernel_rfl) ⟨(HS.out).drew, (Sp.pick [_] [0] (by decide) ((HS.out).drew)).cell⟩ ?_
      repeat
        refine Exists.intro ?_ (And.intro (fun wS hS K hK => ?_) (And.intro ?_ ?_))
        rotate_left 1
        · obtain ⟨hS1, hS2⟩ := hS
          first
            | (refine if_unwanted rfl ?_; simp only [Act.put, List.setIfInBounds_toArray, List.set_cons_zero, List.set_cons_succ]; exact hK.out _ ⟨hS1, hS2⟩)
            | (refine if_wanted rfl ?_; go_simp; exact hK.out _ ⟨hS1, hS2⟩)
            | (refine if_wanted rfl ?_; go_simp; go_at_call 115; refine (sameSp (s.take x.length) x hS1 HTL.out).mono ?_; rw [HG.out]; rintro e w12 ⟨rfl, S12⟩; exact hK.out _ ⟨S12, (Sp.pick [_] [0] (by decide) (S12)).cell⟩)
        · rfl
      intro wE hE
      have HSE := Lib.hid hE.1
      clear hE
      clear c0 f0
      go_wp2
      go_ret
      exact ⟨rfl, HSE.out⟩
  · have hl' : (s.length : Int) < x.length := by omega
    have hln : s.length < x.length := by omega
    have hd : decide (s.length < x.length) = true := by simpa using hln
    have HV : Hid (rdWord x s = none) := by unfold Hid; rw [HD.out, if_neg fun h => hl h.1]
    clear hl
    rw [HV.out]
    go_enter Tryz.func150, Tryz.ntmps150
    go_wp2_with fail
    refine wp_region_text (S := fun wx => Sp w0 [] wx (boxR b #[.string ⟨s.toArray⟩, .func (.func 115) #[] #[]] 150 :: L) ∧ (∀ o, wx.cell? ⟨b, o, none⟩ = (#[.string ⟨s.toArray⟩, .func (.func 115) #[] #[]])[o]?)) (by kernel_rfl) (by kernel_rfl) ⟨(HS.out).drew, (Sp.pick [_] [0] (by decide) ((HS.out).drew)).cell⟩ ?_
    repeat
      refine Exists.intro ?_ (And.intro (fun wS hS K hK => ?_) (And.intro ?_ ?_))
      rotate_left 1
      · obtain ⟨hS1, hS2⟩ := hS
        first
          | (refine if_unwanted rfl ?_; simp only [Act.put, List.setIfInBounds_toArray, List.set_cons_zero, List.set_cons_succ]; exact hK.out _ ⟨hS1, hS2⟩)
          | (refine if_wanted rfl ?_; go_simp; exact hK.out _ ⟨hS1, hS2⟩)
      · rfl
    intro wE hE
    have HSE := Lib.hid hE.1
    clear hE
    clear c0 f0
    go_wp2
    go_ret
    exact ⟨rfl, HSE.out⟩
end
end Go.Proofs.YtapenolbbofjkaaGreatDoor

/-! CmV3 -/
namespace Go.Proofs.YtapenolbbofjkaaGreatDoor
open Go.RowKit

/-- What box hands back. -/
def OutB (b : Nat) (w0 : World) (L : List Res) (o : Option (Mb × Bs)) (e : Ending) (w2 : World) : Prop :=
  match o with
  | some q => e = .returned (.tuple #[mbAgg q.1, .bool true]) ∧ Sp w0 [] w2 (crdR b q.2 :: L)
  | none => e = .returned (.tuple #[mbAgg ([], []), .bool false]) ∧ ∃ s : Bs, s.length ≤ 1000000 ∧ Sp w0 [] w2 (crdR b s :: L)
theorem rdPath_len {s : Bs} {q : Mb × Bs} (h : rdPath s = some q) : q.1.1.length ≤ s.length ∧ q.1.2.length ≤ s.length ∧ q.2.length ≤ s.length := by
  unfold rdPath at h
  simp only [Option.bind_eq_some_iff] at h
  obtain ⟨s1, h1, h⟩ := h
  have l1 := rdTake_len h1
  split at h
  · simp only [Option.some.injEq] at h
    rw [← h]
    simp
    omega
  · simp only [Option.bind_eq_some_iff, Option.some.injEq] at h
    obtain ⟨s2, h2, q2, h3, s3, h4, d, h5, s4, h6, rfl⟩ := h
    have l2 := rdRoute_len h2
    have l3 := rdLocal_len h3
    have l4 := rdTake_len h4
    have l5 := rdDom_len h5
    have l6 := rdTake_len h6
    dsimp only
    omega
section
variable {w0 w : World} {L : List Res} {b : Nat}
set_option maxRecDepth 100000 in
set_option maxHeartbeats 2000000 in
theorem cpathS (s : Bs) (hs : s.length ≤ 1000000) (S : Sp w0 [] w (crdR b s :: L)) (E : Env w0) : Calls Tryz.prog 153 #[.pointer (some ⟨b, 0, none⟩)] w (OutB b w0 L (rdPath (spR s))) := by
  have HS0 := Lib.hid (S.box #[.string ⟨#[]⟩, .string ⟨#[]⟩] 97).pull1
  have HE := Lib.hid E
  have HL : Hid ((spR s).length ≤ 1000000) := by have := spR_len s; unfold Hid; omega
  have HP := Lib.hid (spacesS s hs HS0.out)
  generalize spR s = r at *
  generalize (s.head? == some 32) = sp at *
  have HAD : Hid (adRead r = match rdPath r with | some (b, r) => (b, r, 0) | none => (([], []), [], 2)) := rfl
  clear S E hs
  cases hr : rdPath r with
  | none =>
    have HV : Hid (adRead r = (([], []), [], 2)) := by unfold Hid; rw [HAD.out, hr]
    clear hr
    go_enter Tryz.func153, Tryz.ntmps153
    go_wp2_with fail
    refine HP.out.mono ?_
    generalize w.alloc (.cells #[.string ⟨#[]⟩, .string ⟨#[]⟩] 97) = wa at *
    generalize w.heap.size = q0 at *
    rintro e w1 ⟨rfl, S1⟩
    have HS1 := Lib.hid S1
    have c1 := S1.cell
    clear S1 HS0 HP
    go_wp2_with fail
    refine (adReadS r HL.out HS1.out HE.out).mono ?_
    rw [HV.out]
    rintro e w2 ⟨rfl, S2⟩
    have HS2 := Lib.hid S2
    clear S2 c1
    simp only [mbAgg]
    have S3 := HS2.out.box #[.string ⟨#[]⟩, .string ⟨#[]⟩] 97
    have c3 := S3.pull1.cell
    have f3 := S3.pull1.free
    have S4 := (S3.pull1.set (o := 0) (.string ⟨#[]⟩))
    have d4 := S4.pull1.cell
    have d0 := S4.pull2.cell
    have f0 := S4.pull2.free
    have HSE := Lib.hid (Sp.pick [_, _, _] [1] (by decide) (((S4.pull2.set (o := 0) (.string ⟨#[]⟩)).set (o := 1) (.string ⟨#[]⟩))))
    clear S3 S4
    go_wp2
    exact bodyPost_ret (v := .tuple #[mbAgg ([], []), .bool false]) (by simp [results, Tryz.results153, go_sem, d0, mbAgg]) rfl ⟨rfl, [], by simp, HSE.out⟩
  | some q =>
    obtain ⟨⟨ml, md⟩, r2⟩ := q
    have HV : Hid (adRead r = ((ml, md), r2, 0)) := by unfold Hid; rw [HAD.out, hr]
    clear hr
    go_enter Tryz.func153, Tryz.ntmps153
    go_wp2_with fail
    refine HP.out.mono ?_
    generalize w.alloc (.cells #[.string ⟨#[]⟩, .string ⟨#[]⟩] 97) = wa at *
    generalize w.heap.size = q0 at *
    rintro e w1 ⟨rfl, S1⟩
    have HS1 := Lib.hid S1
    have c1 := S1.cell
    clear S1 HS0 HP
    go_wp2_with fail
    refine (adReadS r HL.out HS1.out HE.out).mono ?_
    rw [HV.out]
    rintro e w2 ⟨rfl, S2⟩
    have HS2 := Lib.hid S2
    clear S2 c1
    simp only [mbAgg]
    have S3 := HS2.out.box #[.string ⟨ml.toArray⟩, .string ⟨md.toArray⟩] 97
    have c3 := S3.pull1.cell
    have f3 := S3.pull1.free
    have S4 := (S3.pull1.set (o := 0) (.string ⟨r2.toArray⟩))
    have d4 := S4.pull1.cell
    have d0 := S4.pull2.cell
    have f0 := S4.pull2.free
    have HSE := Lib.hid (Sp.pick [_, _, _] [1] (by decide) (((S4.pull2.set (o := 0) (.string ⟨ml.toArray⟩)).set (o := 1) (.string ⟨md.toArray⟩))))
    clear S3 S4
    go_wp2
    exact bodyPost_ret (v := .tuple #[mbAgg (ml, md), .bool true]) (by simp [results, Tryz.results153, go_sem, d0, mbAgg]) rfl ⟨rfl, HSE.out⟩
set_option maxRecDepth 100000 in
set_option maxHeartbeats 2000000 in
theorem cboxS (x s : Bs) (hs : s.length ≤ 1000000) (hx : x.length ≤ 1000) (S : Sp w0 [] w (crdR b s :: L)) (E : Env w0) : Calls Tryz.prog 137 #[.pointer (some ⟨b, 0, none⟩), .string ⟨x.toArray⟩] w (OutB b w0 L (boxC x s)) := by
  have HS0 := Lib.hid (S.box #[.string ⟨#[]⟩, .string ⟨#[]⟩] 97).pull1
  have HE := Lib.hid E
  have HL : Hid ((spR s).length ≤ 1000000) := by have := spR_len s; unfold Hid; omega
  have HP := Lib.hid (spacesS s hs HS0.out)
  have HB : Hid (boxC x s = if s.head? = some 32 then (rdWord x (spR s)).bind fun s1 => rdPath (spR s1) else none) := rfl
  have HX := Lib.hid hx
  clear S E hs hx
  by_cases hsp : s.head? = some 32
  · have HQ : Hid ((s.head? == some 32) = true) := by unfold Hid; rw [hsp]; rfl
    have HB1 : Hid (boxC x s = (rdWord x (spR s)).bind fun s1 => rdPath (spR s1)) := by unfold Hid; rw [HB.out, if_pos hsp]
    clear hsp
    rw [HQ.out] at HP
    generalize spR s = r at *
    cases hw : rdWord x r with
    | none =>
      have HV : Hid (boxC x s = none) := by unfold Hid; rw [HB1.out, hw]; rfl
      rw [HV.out]
      have HW := Lib.hid hw
      clear hw
      go_enter Tryz.func137, Tryz.ntmps137
      go_wp2_with fail
      refine HP.out.mono ?_
      generalize w.alloc (.cells #[.string ⟨#[]⟩, .string ⟨#[]⟩] 97) = wa at *
      generalize w.heap.size = q0 at *
      rintro e w1 ⟨rfl, S1⟩
      have HS1 := Lib.hid S1
      clear S1 HS0 HP
      go_wp2_with fail
      refine (wordS x r HL.out HX.out HS1.out).mono ?_
      rw [HW.out]
      rintro e w2 ⟨rfl, S2⟩
      have HS2 := Lib.hid S2
      have d0 := S2.pull1.cell
      have f0 := S2.pull1.free
      have HSE := Lib.hid (Sp.pick [_, _] [1] (by decide) (((S2.pull1.set (o := 0) (.string ⟨#[]⟩)).set (o := 1) (.string ⟨#[]⟩))))
      clear S2
      go_wp2
      exact bodyPost_ret (v := .tuple #[mbAgg ([], []), .bool false]) (by simp [results, Tryz.results137, go_sem, d0, mbAgg]) rfl ⟨rfl, r, HL.out, HSE.out⟩
    | some r1 =>
      have HV : Hid (boxC x s = rdPath (spR r1)) := by unfold Hid; rw [HB1.out, hw]; rfl
      have HL1 : Hid (r1.length ≤ 1000000) := by
        unfold rdWord at hw
        split at hw
        · simp only [Option.some.injEq] at hw
          have := HL.out
          unfold Hid
          rw [← hw]
          simp
          omega
        · cases hw
      have HW := Lib.hid hw
      clear hw
      go_enter Tryz.func137, Tryz.ntmps137
      go_wp2_with fail
      refine HP.out.mono ?_
      generalize w.alloc (.cells #[.string ⟨#[]⟩, .string ⟨#[]⟩] 97) = wa at *
      generalize w.heap.size = q0 at *
      rintro e w1 ⟨rfl, S1⟩
      have HS1 := Lib.hid S1
      clear S1 HS0 HP
      go_wp2_with fail
      refine (wordS x r HL.out HX.out HS1.out).mono ?_
      rw [HW.out]
      rintro e w2 ⟨rfl, S2⟩
      have HPA := Lib.hid (cpathS r1 HL1.out S2 HE.out)
      clear S2
      cases hp : rdPath (spR r1) with
      | none =>
        have HV2 : Hid (boxC x s = none) := by unfold Hid; rw [HV.out, hp]
        rw [hp] at HPA
        clear hp
        go_wp2_with fail
        refine HPA.out.mono ?_
        rintro e w3 ⟨rfl, sx, hsx, S3⟩
        have HSX := Lib.hid hsx
        have d0 := S3.pull1.cell
        have f0 := S3.pull1.free
        have HSE := Lib.hid (Sp.pick [_, _] [1] (by decide) (((S3.pull1.set (o := 0) (.string ⟨#[]⟩)).set (o := 1) (.string ⟨#[]⟩))))
        clear S3 hsx
        simp only [mbAgg]
        go_wp2
        rw [HV2.out]
        exact bodyPost_ret (v := .tuple #[mbAgg ([], []), .bool false]) (by simp [results, Tryz.results137, go_sem, d0, mbAgg]) rfl ⟨rfl, sx, HSX.out, HSE.out⟩
      | some q =>
        obtain ⟨⟨ml, md⟩, r2⟩ := q
        have HV2 : Hid (boxC x s = some ((ml, md), r2)) := by unfold Hid; rw [HV.out, hp]
        rw [hp] at HPA
        clear hp
        go_wp2_with fail
        refine HPA.out.mono ?_
        rintro e w3 ⟨rfl, S3⟩
        have d0 := S3.pull1.cell
        have f0 := S3.pull1.free
        have HSE := Lib.hid (Sp.pick [_, _] [1] (by decide) (((S3.pull1.set (o := 0) (.string ⟨ml.toArray⟩)).set (o := 1) (.string ⟨md.toArray⟩))))
        clear S3
        simp only [mbAgg]
        go_wp2
        rw [HV2.out]
        exact bodyPost_ret (v := .tuple #[mbAgg (ml, md), .bool true]) (by simp [results, Tryz.results137, go_sem, d0, mbAgg]) rfl ⟨rfl, HSE.out⟩
  · have HQ : Hid ((s.head? == some 32) = false) := by unfold Hid; exact beq_eq_false_iff_ne.2 hsp
    have HV : Hid (boxC x s = none) := by unfold Hid; rw [HB.out, if_neg hsp]
    clear hsp
    rw [HQ.out] at HP
    generalize spR s = r at *
    rw [HV.out]
    go_enter Tryz.func137, Tryz.ntmps137
    go_wp2_with fail
    refine HP.out.mono ?_
    generalize w.alloc (.cells #[.string ⟨#[]⟩, .string ⟨#[]⟩] 97) = wa at *
    generalize w.heap.size = q0 at *
    rintro e w2 ⟨rfl, S2⟩
    have d0 := S2.pull1.cell
    have f0 := S2.pull1.free
    have HSE := Lib.hid (Sp.pick [_, _] [1] (by decide) (((S2.pull1.set (o := 0) (.string ⟨#[]⟩)).set (o := 1) (.string ⟨#[]⟩))))
    clear S2 HP HS0
    go_wp2
    exact bodyPost_ret (v := .tuple #[mbAgg ([], []), .bool false]) (by simp [results, Tryz.results137, go_sem, d0, mbAgg]) rfl ⟨rfl, r, HL.out, HSE.out⟩
end
end Go.Proofs.YtapenolbbofjkaaGreatDoor

/-! CmV4 -/
namespace Go.Proofs.YtapenolbbofjkaaGreatDoor
open Go.RowKit

theorem dig_iff (c : UInt8) : digitsW.contains c = decide (48 ≤ c.toNat ∧ c.toNat ≤ 57) := u8_all (P := fun c => digitsW.contains c = decide (48 ≤ c.toNat ∧ c.toNat ≤ 57)) (by decide +kernel) c
theorem num_ge : ∀ (l : Bs) (a : Nat), a ≤ l.foldl (fun a c => a * 10 + (c.toNat - 48)) a
  | [], a => Nat.le_refl _
  | c :: r, a => Nat.le_trans (by omega) (num_ge r (a * 10 + (c.toNat - 48)))
theorem parse_num : ∀ (l : Bs) (a : Nat), l.all digitsW.contains = true → l.foldl (fun a c => a * 10 + (c.toNat - 48)) a < 1000000000000000000 → Lib.parseUintM (2 ^ 64 - 1) a l = .ok (l.foldl (fun a c => a * 10 + (c.toNat - 48)) a)
  | [], a, _, _ => rfl
  | c :: r, a, h, hl => by
    rw [List.all_cons, Bool.and_eq_true] at h
    have hd := h.1
    rw [dig_iff, decide_eq_true_eq] at hd
    rw [List.foldl_cons] at hl ⊢
    have hg := num_ge r (a * 10 + (c.toNat - 48))
    have hm : (2 : Nat) ^ 64 - 1 = 18446744073709551615 := by decide
    unfold Lib.parseUintM
    rw [if_pos hd, if_neg (by omega), if_neg (by omega)]
    exact parse_num r _ h.2 hl
theorem numV_lt : ∀ (m : Nat) (l : Bs), l.length = m → l.all digitsW.contains = true → numV l < 10 ^ m := by
  intro m
  induction m with
  | zero => intro l hl _; rw [List.eq_nil_of_length_eq_zero hl]; decide
  | succ m ih =>
    intro l hl ha
    rcases List.eq_nil_or_concat l with rfl | ⟨t, c, rfl⟩
    · simp at hl
    · rw [List.concat_eq_append] at *
      rw [List.all_append, Bool.and_eq_true] at ha
      have h1 := ih t (by simpa using hl) ha.1
      have h2 : c.toNat - 48 ≤ 9 := u8_all (P := fun c => digitsW.contains c = true → c.toNat - 48 ≤ 9) (by decide +kernel) c (by simpa using ha.2)
      rw [numV_snoc, Nat.pow_succ]
      omega
theorem sizeOk_lt {s : Bs} (h : sizeOkB s = true) : numV s < 1000000000000 := by
  unfold sizeOkB at h
  simp only [Bool.and_eq_true, decide_eq_true_eq] at h
  have h1 := numV_lt _ _ rfl h.2.2
  have h2 : (10 : Nat) ^ s.length ≤ 10 ^ 12 := Nat.pow_le_pow_right (by decide) h.2.1
  have h3 : (10 : Nat) ^ 12 = 1000000000000 := by decide
  omega
theorem parse_size {s : Bs} (h : sizeOkB s = true) : Lib.parseIntB 64 s = .ok (numV s : Int) := by
  have hlt := sizeOk_lt h
  unfold sizeOkB at h
  simp only [Bool.and_eq_true, decide_eq_true_eq, Bool.not_eq_true', beq_eq_false_iff_ne] at h
  cases s with
  | nil => exact absurd rfl h.1
  | cons c r =>
    have hc := h.2.2
    rw [List.all_cons, Bool.and_eq_true] at hc
    have hd := hc.1
    rw [dig_iff, decide_eq_true_eq] at hd
    have hp : Lib.parseUintB 64 (c :: r) = .ok (numV (c :: r)) := by
      unfold Lib.parseUintB
      rw [if_neg (by simp)]
      exact parse_num (c :: r) 0 h.2.2 (by have : numV (c :: r) < 1000000000000 := hlt; unfold numV at this; omega)
    unfold Lib.parseIntB
    dsimp only
    rw [if_neg (by omega), hp]
    dsimp only
    have h9 : (2 : Nat) ^ (64 - 1) = 9223372036854775808 := by decide
    rw [if_neg (by rw [h9]; omega), if_neg (by omega), if_neg (by omega)]
theorem dropWhile_nil (p : UInt8 → Bool) : ∀ l : Bs, l.dropWhile p = [] ↔ l.all p = true
  | [] => by simp
  | c :: r => by
    rw [List.dropWhile_cons, List.all_cons]
    cases hc : p c with
    | true => simpa using dropWhile_nil p r
    | false => simp
theorem trimS_nil (s cs : Bs) : (Lib.trimS s cs).isEmpty = s.all cs.contains := by
  unfold Lib.trimS Lib.trimLeftS Lib.trimRightS
  rw [Bool.eq_iff_iff, List.isEmpty_iff, dropWhile_nil, List.all_reverse]
  constructor
  · intro h
    have h2 : (s.reverse.dropWhile cs.contains).dropWhile cs.contains = [] := (dropWhile_nil _ _).2 h
    have h3 : s.reverse.dropWhile cs.contains = [] := by
      cases hd : s.reverse.dropWhile cs.contains with
      | nil => rfl
      | cons c t =>
        exfalso
        have := dropWhile_head cs.contains s.reverse c (by rw [hd]; rfl)
        rw [hd, List.dropWhile_cons, this] at h2
        cases h2
    have h4 := (dropWhile_nil _ _).1 h3
    rwa [List.all_reverse] at h4
  · intro h
    have h3 := (dropWhile_nil cs.contains s.reverse).2 (by rwa [List.all_reverse])
    rw [h3]; rfl
section
variable {w0 w : World} {L : List Res} {b : Nat}
theorem asciiInfo : (Tryz.prog.info? 190).map (fun i => (i.zero, i.size)) = some (some (.agg (Array.replicate 256 (.bool false))), 256) := by kernel_rfl
theorem trimDigS (s : Bs) (S : Sp w0 [] w L) (hs : s.length ≤ 1000000) : Calls Tryz.prog 149 #[.string ⟨s.toArray⟩, .string ⟨#[48, 49, 50, 51, 52, 53, 54, 55, 56, 57]⟩] w fun e w2 => e = .returned (.string ⟨(Lib.trimS s digitsW).toArray⟩) ∧ Sp w0 [] w2 L :=
  (Any.strings_Trim_laid Tryz.lays160 asciiInfo ⟨s.toArray⟩ ⟨#[48, 49, 50, 51, 52, 53, 54, 55, 56, 57]⟩ w (by show s.length ≤ _; omega) (by decide) (ascii_of_all (by decide))).mono fun _ _ ⟨he, hb⟩ => ⟨he, S.ext0 (Ext.of_below hb)⟩
theorem parseS (s : Bs) (h : sizeOkB s = true) (S : Sp w0 [] w L) : Calls Tryz.prog 168 #[.string ⟨s.toArray⟩, .int .i64 10, .int .i64 64] w fun e w2 => e = .returned (.tuple #[.int .i64 (numV s), .nilIface]) ∧ Sp w0 [] w2 L := by
  have hl : s.length ≤ 12 := by
    unfold sizeOkB at h
    simp only [Bool.and_eq_true, decide_eq_true_eq] at h
    exact h.2.1
  refine (Tryz.strconv_ParseInt_10_at64_ok ⟨s.toArray⟩ (by show s.length ≤ _; omega) (numV s) (parse_size h) w).mono fun _ w2 ⟨he, hw⟩ => ⟨he, ?_⟩
  rcases hw with hw | ⟨t, hw⟩
  · rw [hw]; exact S
  · rw [hw]; exact S.ext0 (Grown.bytes w 5 t).ext
end
end Go.Proofs.YtapenolbbofjkaaGreatDoor

/-! CmV5 -/
namespace Go.Proofs.YtapenolbbofjkaaGreatDoor
open Go.RowKit

section
variable {w0 w : World} {L : List Res} {b pc : Nat}
/-- A command in a block of its own. -/
abbrev cmR (b : Nat) (c : Cm) : Res := boxR b (cmCells c) 131
theorem valR_len (s : Bs) : (valR s).length ≤ s.length := by unfold valR; simp
set_option maxRecDepth 100000 in
set_option maxHeartbeats 2000000 in
theorem sizeS (c : Cm) (s : Bs) (hs : s.length ≤ 1000000) (S : Sp w0 [] w (crdR b s :: cmR pc c :: L)) (E : Env w0) : Calls Tryz.prog 151 #[.pointer (some ⟨b, 0, none⟩), .pointer (some ⟨pc, 0, none⟩)] w fun e w2 =>
    e = .returned (.bool (decide (c.size < 0) && sizeOkB (valB s))) ∧ Sp w0 [] w2 (crdR b (valR s) :: cmR pc (if c.size < 0 ∧ sizeOkB (valB s) = true then { c with size := numV (valB s) } else c) :: L) := by
  have HVAL := Lib.hid (valueS s hs S E)
  have HVL : Hid ((valB s).length ≤ 1000000) := by have := valB_len s; unfold Hid; omega
  clear S hs E
  obtain ⟨vb, t, ⟨l, d⟩, z, e8⟩ := c
  unfold cmR cmCells at *
  dsimp only at *
  generalize valR s = r at *
  generalize valB s = v at *
  have HSO : Hid (sizeOkB v = (!(v == []) && (decide (v.length ≤ 12) && v.all digitsW.contains))) := rfl
  by_cases hz : 0 ≤ z
  · have HV : Hid ((decide (z < 0) && sizeOkB v) = false ∧ ¬ (z < 0 ∧ sizeOkB v = true)) := ⟨by rw [decide_eq_false (by omega)]; rfl, fun h => by omega⟩
    rw [HV.out.1, if_neg HV.out.2]
    go_enter Tryz.func151, Tryz.ntmps151
    go_wp2_with fail
    refine HVAL.out.mono ?_
    rintro e w1 ⟨rfl, S1⟩
    have HS1 := Lib.hid S1
    have c1 := S1.pull1.cell
    clear S1 HVAL
    go_wp2
    go_ret
    exact ⟨rfl, HS1.out⟩
  have hz' : z < 0 := by omega
  by_cases hv : v = []
  · subst hv
    have HV : Hid ((decide (z < 0) && sizeOkB []) = false ∧ ¬ (z < 0 ∧ sizeOkB [] = true)) := ⟨by rw [HSO.out]; simp, fun h => by have := h.2; rw [HSO.out] at this; simp at this⟩
    rw [HV.out.1, if_neg HV.out.2]
    clear hz
    go_enter Tryz.func151, Tryz.ntmps151
    go_wp2_with fail
    refine HVAL.out.mono ?_
    rintro e w1 ⟨rfl, S1⟩
    have HS1 := Lib.hid S1
    have c1 := S1.pull1.cell
    clear S1 HVAL
    go_wp2
    go_ret
    exact ⟨rfl, HS1.out⟩
  by_cases hl : v.length ≤ 12
  · have hl' : (v.length : Int) ≤ 12 := by omega
    have HTR := Lib.hid (trimS_nil v digitsW)
    by_cases hd : v.all digitsW.contains = true
    · have HOK : Hid (sizeOkB v = true) := by unfold Hid; rw [HSO.out, hd, decide_eq_true hl]; simpa using hv
      have HV : Hid ((decide (z < 0) && sizeOkB v) = true ∧ (z < 0 ∧ sizeOkB v = true)) := ⟨by rw [HOK.out, decide_eq_true hz']; rfl, hz', HOK.out⟩
      rw [HV.out.1, if_pos HV.out.2]
      have HTN : Hid (Lib.trimS v digitsW = []) := by have := HTR.out; rw [hd, List.isEmpty_iff] at this; exact this
      have z0 : decide ((0 : Int) ≤ z) = false := by simp <;> omega
      have ve : v.isEmpty = false := by simpa using hv
      have l12 : decide ((12 : Int) < v.length) = false := by simp <;> omega
      clear hz hd hl
      go_enter Tryz.func151, Tryz.ntmps151
      go_wp2_with fail
      refine HVAL.out.mono ?_
      rintro e w1 ⟨rfl, S1⟩
      have HS1 := Lib.hid S1
      have c1 := S1.pull1.cell
      clear S1 HVAL
      go_wp2_with fail
      refine (trimDigS v HS1.out HVL.out).mono ?_
      rw [HTN.out]
      rintro e w2 ⟨rfl, S2⟩
      have HS2 := Lib.hid S2
      clear S2
      go_wp2_with fail
      refine (parseS v HOK.out HS2.out).mono ?_
      rintro e w3 ⟨rfl, S3⟩
      have c3 := S3.pull1.cell
      have f3 := S3.pull1.free
      have HSE := Lib.hid (S3.pull1.set (o := 4) (.int .i64 (numV v))).pull1
      clear S3 c1
      go_wp2
      go_ret
      exact ⟨rfl, HSE.out⟩
    · have HNO : Hid (sizeOkB v = false) := by unfold Hid; rw [HSO.out]; simp [hd]
      have HV : Hid ((decide (z < 0) && sizeOkB v) = false ∧ ¬ (z < 0 ∧ sizeOkB v = true)) := ⟨by rw [HNO.out]; simp, fun h => by rw [HNO.out] at h; cases h.2⟩
      rw [HV.out.1, if_neg HV.out.2]
      have hte : (Lib.trimS v digitsW).isEmpty = false := by rw [HTR.out]; simpa using hd
      have HTD := Lib.hid (fun w (S : Sp w0 [] w (crdR b r :: boxR pc #[.int .i64 vb, .string ⟨t.toArray⟩, .string ⟨l.toArray⟩, .string ⟨d.toArray⟩, .int .i64 z, .bool e8] 131 :: L)) => trimDigS v S HVL.out)
      generalize Lib.trimS v digitsW = tv at *
      clear hz hd hl
      go_enter Tryz.func151, Tryz.ntmps151
      go_wp2_with fail
      refine HVAL.out.mono ?_
      rintro e w1 ⟨rfl, S1⟩
      have HS1 := Lib.hid S1
      have c1 := S1.pull1.cell
      clear S1 HVAL
      go_wp2_with fail
      refine (HTD.out _ HS1.out).mono ?_
      rintro e w2 ⟨rfl, S2⟩
      have HS2 := Lib.hid S2
      clear S2 c1
      go_wp2
      go_ret
      exact ⟨rfl, HS2.out⟩
  · have hl' : (12 : Int) < v.length := by omega
    have HNO : Hid (sizeOkB v = false) := by unfold Hid; rw [HSO.out]; simp [hl]
    have HV : Hid ((decide (z < 0) && sizeOkB v) = false ∧ ¬ (z < 0 ∧ sizeOkB v = true)) := ⟨by rw [HNO.out]; simp, fun h => by rw [HNO.out] at h; cases h.2⟩
    rw [HV.out.1, if_neg HV.out.2]
    clear hz hl
    go_enter Tryz.func151, Tryz.ntmps151
    go_wp2_with fail
    refine HVAL.out.mono ?_
    rintro e w1 ⟨rfl, S1⟩
    have HS1 := Lib.hid S1
    have c1 := S1.pull1.cell
    clear S1 HVAL
    go_wp2
    go_ret
    exact ⟨rfl, HS1.out⟩
end
end Go.Proofs.YtapenolbbofjkaaGreatDoor

/-! CmV6 -/
namespace Go.Proofs.YtapenolbbofjkaaGreatDoor
open Go.RowKit

section
variable {w0 w : World} {L : List Res} {b pc : Nat}
set_option maxRecDepth 100000 in
set_option maxHeartbeats 2000000 in
theorem bodyS (c : Cm) (seen : Bool) (s : Bs) (hs : s.length ≤ 1000000) (S : Sp w0 [] w (crdR b s :: cmR pc c :: L)) (E : Env w0) : Calls Tryz.prog 152 #[.pointer (some ⟨b, 0, none⟩), .pointer (some ⟨pc, 0, none⟩), .bool seen] w fun e w2 =>
    e = .returned (.bool (!seen && (greatB (valB s) == eightW || greatB (valB s) == sevenW))) ∧ Sp w0 [] w2 (crdR b (valR s) :: cmR pc { c with eight := greatB (valB s) == eightW } :: L) := by
  have HVAL := Lib.hid (valueS s hs S E)
  have HVL : Hid ((valB s).length ≤ 1000000) := by have := valB_len s; unfold Hid; omega
  clear S hs E
  obtain ⟨vb, t, ⟨l, d⟩, z, e8⟩ := c
  unfold cmR cmCells at *
  dsimp only at *
  generalize valR s = r at *
  generalize valB s = v at *
  have H8 : Hid (∀ {w : World} {L : List Res}, Sp w0 [] w L → Calls Tryz.prog 115 #[.string ⟨v.toArray⟩, .string ⟨#[56, 66, 73, 84, 77, 73, 77, 69]⟩] w fun e w2 => e = .returned (.bool (greatB v == eightW)) ∧ Sp w0 [] w2 L) := fun S => sameSp v eightW S HVL.out
  have H7 : Hid (∀ {w : World} {L : List Res}, Sp w0 [] w L → Calls Tryz.prog 115 #[.string ⟨v.toArray⟩, .string ⟨#[55, 66, 73, 84]⟩] w fun e w2 => e = .returned (.bool (greatB v == sevenW)) ∧ Sp w0 [] w2 L) := fun S => sameSp v sevenW S HVL.out
  generalize (greatB v == eightW) = b8 at *
  generalize (greatB v == sevenW) = b7 at *
  go_enter Tryz.func152, Tryz.ntmps152
  go_wp2_with fail
  refine HVAL.out.mono ?_
  rintro e w1 ⟨rfl, S1⟩
  have HS1 := Lib.hid S1
  have c0 := S1.cell
  clear S1 HVAL
  go_wp2_with fail
  refine (H8.out HS1.out).mono ?_
  rintro e w2 ⟨rfl, S2⟩
  have c2 := S2.pull1.cell
  have f2 := S2.pull1.free
  have S3 := (S2.pull1.set (o := 5) (.bool b8)).pull1
  have HS3 := Lib.hid S3
  have d0 := S3.cell
  have dp := S3.pull1.cell
  clear S2 S3 c0
  cases seen with
  | true =>
    go_wp2
    go_ret
    exact ⟨by simp, HS3.out⟩
  | false =>
    cases b8 with
    | true =>
      go_wp2
      go_ret
      exact ⟨by simp, HS3.out⟩
    | false =>
      go_wp2_with fail
      refine (H7.out HS3.out).mono ?_
      rintro e w3 ⟨rfl, S4⟩
      have HS4 := Lib.hid S4
      clear S4 d0 dp c2 f2
      go_wp2
      go_ret
      exact ⟨by simp, HS4.out⟩
end
end Go.Proofs.YtapenolbbofjkaaGreatDoor

/-! CmV7 -/
namespace Go.Proofs.YtapenolbbofjkaaGreatDoor
open Go.RowKit

/-- What mail says, if it may be. -/
def mailC (c : Cm) (s : Bs) : Option Cm := (boxC fromB s).bind fun q => (mailL (q.2.length + 1) q.2 c.size c.eight false).map fun r => { c with box := q.1, size := r.1, eight := r.2 }
def OutM (b pc : Nat) (w0 : World) (L : List Res) (o : Option Cm) (e : Ending) (w2 : World) : Prop :=
  match o with
  | some c => e = .returned (.bool true) ∧ Sp w0 [] w2 (crdR b [] :: cmR pc c :: L)
  | none => e = .returned (.bool false) ∧ ∃ (s : Bs) (c : Cm), s.length ≤ 1000000 ∧ Sp w0 [] w2 (crdR b s :: cmR pc c :: L)
theorem spR_lt {s : Bs} (h : s.head? = some 32) : (spR s).length < s.length := by
  have := spR_pos s
  rw [h] at this
  simpa using this
theorem rdWord_len {x s r : Bs} (h : rdWord x s = some r) : r.length + x.length = s.length := by
  unfold rdWord at h
  split at h
  · rename_i hc
    simp only [Option.some.injEq] at h
    rw [← h, List.length_drop]
    omega
  · cases h
theorem boxC_len {x s : Bs} {q : Mb × Bs} (h : boxC x s = some q) : q.2.length ≤ s.length := by
  unfold boxC at h
  split at h
  · simp only [Option.bind_eq_some_iff] at h
    obtain ⟨s1, h1, h2⟩ := h
    have l1 := rdWord_len h1
    have l2 := (rdPath_len h2).2.2
    have l3 := spR_len s1
    have l4 := spR_len s
    omega
  · cases h
section
variable {w0 w : World} {L : List Res} {b pc : Nat}
/-- box, in one way. -/
def OutBU (b : Nat) (w0 : World) (L : List Res) (o : Option (Mb × Bs)) (e : Ending) (w2 : World) : Prop :=
  ∃ (m : Mb) (ok : Bool) (s : Bs), e = .returned (.tuple #[mbAgg m, .bool ok]) ∧ s.length ≤ 1000000 ∧ Sp w0 [] w2 (crdR b s :: L) ∧ (ok = true → o = some (m, s)) ∧ (ok = false → o = none)
theorem cboxU (x s : Bs) (hs : s.length ≤ 1000000) (hx : x.length ≤ 1000) (S : Sp w0 [] w (crdR b s :: L)) (E : Env w0) : Calls Tryz.prog 137 #[.pointer (some ⟨b, 0, none⟩), .string ⟨x.toArray⟩] w (OutBU b w0 L (boxC x s)) := by
  refine (cboxS x s hs hx S E).mono fun e w2 h => ?_
  cases hb : boxC x s with
  | none =>
    rw [hb] at h
    obtain ⟨he, s2, h2, h3⟩ := h
    exact ⟨([], []), false, s2, he, h2, h3, (fun h => by cases h), fun _ => rfl⟩
  | some q =>
    rw [hb] at h
    obtain ⟨he, h3⟩ := h
    have := boxC_len hb
    exact ⟨q.1, true, q.2, he, by omega, h3, (fun _ => rfl), (fun h => by cases h)⟩
/-- The loop's relation: the fuel f, ok, seen, what is left, the command so far; R: what is to come out. -/
def MailRel (R : Option Cm) (f : Nat) (ok sn : Bool) (s : Bs) (c : Cm) : Prop :=
  s.length ≤ 1000000 ∧ (ok = true → s.length < f ∧ (mailL f s c.size c.eight sn).map (fun r => { c with size := r.1, eight := r.2 }) = R) ∧ (ok = false → R = none)
set_option maxRecDepth 100000 in
set_option maxHeartbeats 4000000 in
theorem mailS (c : Cm) (s : Bs) (hs : s.length ≤ 1000000) (S : Sp w0 [] w (crdR b s :: cmR pc c :: L)) (E : Env w0) : Calls Tryz.prog 136 #[.pointer (some ⟨b, 0, none⟩), .pointer (some ⟨pc, 0, none⟩)] w (OutM b pc w0 L (mailC c s)) := by
  have HE := Lib.hid E
  have HB := Lib.hid (cboxU fromB s hs (by decide) S E)
  have HD : Hid (mailC c s = (boxC fromB s).bind fun q => (mailL (q.2.length + 1) q.2 c.size c.eight false).map fun r => { c with box := q.1, size := r.1, eight := r.2 }) := rfl
  generalize mailC c s = R at *
  generalize boxC fromB s = o at *
  clear S E
  go_enter Tryz.func136, Tryz.ntmps136
  go_wp2_with fail
  refine HB.out.mono ?_
  rintro e w1 ⟨m, ok, s1, rfl, hs1, S1, ho1, ho2⟩
  have HREL : Hid (MailRel R (s1.length + 1) ok false s1 { c with box := m }) := by
    refine ⟨hs1, fun h => ⟨by omega, ?_⟩, fun h => ?_⟩
    · rw [HD.out, ho1 h]; rfl
    · rw [HD.out, ho2 h]; rfl
  obtain ⟨vb, t, ⟨l, d⟩, z, e8⟩ := c
  obtain ⟨ml, md⟩ := m
  simp only [mbAgg]
  have S2 := S1.box #[.string ⟨ml.toArray⟩, .string ⟨md.toArray⟩] 97
  have c2 := S2.pull2.cell
  have f2 := S2.pull2.free
  have S3 := (S2.pull2.set (o := 2) (.string ⟨ml.toArray⟩)).set (o := 3) (.string ⟨md.toArray⟩)
  have HSE : Hid (Sp w0 [] _ (crdR b s1 :: cmR pc ⟨vb, t, (ml, md), z, e8⟩ :: L)) := (Sp.pick [_, _, _] [2, 0] (by decide) (S3))
  unfold cmCells at c2
  dsimp only at HREL c2
  clear S1 S2 S3 HB hs1 ho1 ho2 HD hs
  go_wp2_with fail
  generalize (World.setCell _ _ _ : World) = wl at *
  clear c2 f2
  go_loopg [6, 7] (s1.length + 1) (fun gg v6 v7 wr => ∃ (ok sn : Bool) (s : Bs) (c : Cm), v6 = .bool ok ∧ v7 = .bool sn ∧ MailRel R gg ok sn s c ∧ Sp w0 [] wr (crdR b s :: cmR pc c :: L))
  case atStart => exact ⟨ok, false, s1, _, rfl, rfl, HREL.out, HSE.out⟩
  case round =>
    clear HREL HSE
    obtain ⟨ok, sn, s, c, rfl, rfl, hr, S⟩ := hrel
    have HR := Lib.hid hr
    have HS := Lib.hid S
    have c0 := S.cell
    clear hr S
    cases ok with
    | false =>
      have HN : Hid (R = none) := HR.out.2.2 rfl
      go_wp2
      go_ret
      rw [HN.out]
      exact ⟨rfl, s, c, HR.out.1, HS.out⟩
    | true =>
      obtain ⟨hlt, hR⟩ := HR.out.2.1 rfl
      have HRR := Lib.hid hR
      have HZ := Lib.hid HR.out.1
      clear hR HR
      obtain ⟨f, rfl⟩ : ∃ f, gk = f + 1 := ⟨gk - 1, by omega⟩
      by_cases hs0 : s = []
      · subst hs0
        have HV : Hid (R = some { c with size := c.size, eight := c.eight }) := by unfold Hid; rw [← HRR.out]; unfold mailL; rw [if_pos rfl]; rfl
        go_wp2
        go_ret
        rw [HV.out]
        exact ⟨rfl, HS.out⟩
      have hse : s.isEmpty = false := by simpa using hs0
      have HSP := Lib.hid (spacesS s HZ.out HS.out)
      by_cases h32 : s.head? = some 32
      · have HQ : Hid ((s.head? == some 32) = true) := by unfold Hid; rw [h32]; rfl
        have hrl := spR_lt h32
        have HM : Hid (mailL (f + 1) s c.size c.eight sn = if spR s = [] then some (c.size, c.eight) else match rdWord szW (spR s) with
            | some s2 => if 0 ≤ c.size ∨ sizeOkB (valB s2) = false then none else mailL f (valR s2) (numV (valB s2)) c.eight sn
            | none => match rdWord bdW (spR s) with
              | some s2 => if sn then none else if greatB (valB s2) = eightW then mailL f (valR s2) c.size true true
                else if greatB (valB s2) = sevenW then mailL f (valR s2) c.size false true else none
              | none => none) := by
          unfold Hid
          conv => lhs; unfold mailL
          rw [if_neg hs0, if_neg (by rw [h32]; simp)]
          rfl
        rw [HQ.out] at HSP
        clear hs0 h32
        generalize spR s = r at *
        have HRL : Hid (r.length ≤ 1000000) := by have := HZ.out; unfold Hid; omega
        by_cases hr0 : r = []
        · subst hr0
          have HV : Hid (R = some { c with size := c.size, eight := c.eight }) := by unfold Hid; rw [← HRR.out, HM.out, if_pos rfl]; rfl
          have hf : 0 < f := by omega
          go_wp2_with fail
          refine HSP.out.mono ?_
          rintro e w2 ⟨rfl, S2⟩
          have HS2 := Lib.hid S2
          clear c0
          have c0 := S2.cell
          clear S2
          go_wp2
          go_roundg f
          case measure => omega
          case rel =>
            refine ⟨true, sn, [], c, rfl, rfl, ⟨by simp, fun _ => ⟨hf, ?_⟩, fun h => by cases h⟩, HS2.out⟩
            rw [HV.out]
            obtain ⟨f', rfl⟩ : ∃ f', f = f' + 1 := ⟨f - 1, by omega⟩
            unfold mailL
            rw [if_pos rfl]
            rfl
        · have hre : r.isEmpty = false := by simpa using hr0
          have HM2 := HM.out
          rw [if_neg hr0] at HM2
          have HM3 := Lib.hid HM2
          clear HM2 hr0
          cases hw : rdWord szW r with
          | some s2 =>
            have l2 := rdWord_len hw
            have HW := Lib.hid hw
            have HM4 : Hid (mailL (f + 1) s c.size c.eight sn = if 0 ≤ c.size ∨ sizeOkB (valB s2) = false then none else mailL f (valR s2) (numV (valB s2)) c.eight sn) := by unfold Hid; rw [HM3.out, hw]
            clear hw
            have lr := valR_len s2
            have HL2 : Hid (s2.length ≤ 1000000) := by have := HRL.out; unfold Hid; omega
            have hlf : (valR s2).length < f := by omega
            have HL3 : Hid ((valR s2).length ≤ 1000000) := by have := HL2.out; unfold Hid; omega
            go_wp2_with fail
            refine HSP.out.mono ?_
            rintro e w2 ⟨rfl, S2⟩
            have HS2 := Lib.hid S2
            clear c0
            have c0 := S2.cell
            clear S2
            go_wp2_with fail
            refine (wordS szW r HRL.out (by decide) HS2.out).mono ?_
            rw [HW.out]
            rintro e w3 ⟨rfl, S3⟩
            have HS3 := Lib.hid S3
            clear c0 S3
            go_wp2_with fail
            refine (sizeS c s2 HL2.out HS3.out HE.out).mono ?_
            by_cases hk : c.size < 0 ∧ sizeOkB (valB s2) = true
            · have HV : Hid ((mailL f (valR s2) (numV (valB s2)) c.eight sn).map (fun r => { c with size := r.1, eight := r.2 }) = R) := by
                unfold Hid
                rw [← HRR.out, HM4.out, if_neg]
                rintro (h | h)
                · omega
                · rw [hk.2] at h; cases h
              have HK : Hid ((decide (c.size < 0) && sizeOkB (valB s2)) = true) := by unfold Hid; rw [hk.2, decide_eq_true hk.1]; rfl
              rw [HK.out, if_pos hk]
              clear hk
              rintro e w4 ⟨rfl, S4⟩
              have HS4 := Lib.hid S4
              clear S4
              go_wp2_with fail
              go_roundg f
              case measure => omega
              case rel => exact ⟨true, sn, _, _, rfl, rfl, ⟨HL3.out, fun _ => ⟨hlf, HV.out⟩, fun h => by cases h⟩, HS4.out⟩
            · have HV : Hid (R = none) := by
                unfold Hid
                rw [← HRR.out, HM4.out, if_pos]
                · rfl
                · cases hsz : sizeOkB (valB s2) with
                  | false => exact .inr rfl
                  | true => exact .inl (by by_cases h : 0 ≤ c.size; exact h; exact absurd ⟨by omega, hsz⟩ hk)
              have HK : Hid ((decide (c.size < 0) && sizeOkB (valB s2)) = false) := by
                unfold Hid
                cases hsz : sizeOkB (valB s2) with
                | false => simp
                | true => rw [decide_eq_false fun h => hk ⟨h, hsz⟩]; rfl
              rw [HK.out, if_neg hk]
              clear hk
              rintro e w4 ⟨rfl, S4⟩
              have HS4 := Lib.hid S4
              clear S4
              go_wp2_with fail
              go_roundg f
              case measure => omega
              case rel => exact ⟨false, sn, _, _, rfl, rfl, ⟨HL3.out, (fun h => by cases h), fun _ => HV.out⟩, HS4.out⟩
          | none =>
            have HW := Lib.hid hw
            have HM4 : Hid (mailL (f + 1) s c.size c.eight sn = match rdWord bdW r with
              | some s2 => if sn then none else if greatB (valB s2) = eightW then mailL f (valR s2) c.size true true
                else if greatB (valB s2) = sevenW then mailL f (valR s2) c.size false true else none
              | none => none) := by unfold Hid; rw [HM3.out, hw]
            clear hw
            cases hw2 : rdWord bdW r with
            | none =>
              have HW2 := Lib.hid hw2
              have HV : Hid (R = none) := by unfold Hid; rw [← HRR.out, HM4.out, hw2]; rfl
              clear hw2
              go_wp2_with fail
              refine HSP.out.mono ?_
              rintro e w2 ⟨rfl, S2⟩
              have HS2 := Lib.hid S2
              clear c0
              have c0 := S2.cell
              clear S2
              go_wp2_with fail
              refine (wordS szW r HRL.out (by decide) HS2.out).mono ?_
              rw [HW.out]
              rintro e w3 ⟨rfl, S3⟩
              have HS3 := Lib.hid S3
              clear c0 S3
              go_wp2_with fail
              refine (wordS bdW r HRL.out (by decide) HS3.out).mono ?_
              rw [HW2.out]
              rintro e w4 ⟨rfl, S4⟩
              have HS4 := Lib.hid S4
              clear S4
              go_wp2
              go_ret
              rw [HV.out]
              exact ⟨rfl, r, c, HRL.out, HS4.out⟩
            | some s2 =>
              have HW2 := Lib.hid hw2
              have l2 := rdWord_len hw2
              have HM5 : Hid (mailL (f + 1) s c.size c.eight sn = if sn then none else if greatB (valB s2) = eightW then mailL f (valR s2) c.size true true
                else if greatB (valB s2) = sevenW then mailL f (valR s2) c.size false true else none) := by unfold Hid; rw [HM4.out, hw2]
              clear hw2
              have lr := valR_len s2
              have HL2 : Hid (s2.length ≤ 1000000) := by have := HRL.out; unfold Hid; omega
              have hlf : (valR s2).length < f := by omega
              have HL3 : Hid ((valR s2).length ≤ 1000000) := by have := HL2.out; unfold Hid; omega
              have HREL : Hid (MailRel R f (!sn && (greatB (valB s2) == eightW || greatB (valB s2) == sevenW)) true (valR s2) { c with eight := greatB (valB s2) == eightW }) := by
                refine ⟨HL3.out, fun h => ⟨hlf, ?_⟩, fun h => ?_⟩
                · rw [← HRR.out, HM5.out]
                  cases sn with
                  | true => simp at h
                  | false =>
                    by_cases h8 : greatB (valB s2) = eightW
                    · rw [if_neg (by simp), if_pos h8, h8]; rfl
                    · have h7 : greatB (valB s2) = sevenW := by simpa [h8] using h
                      rw [if_neg (by simp), if_neg h8, if_pos h7]
                      have : (greatB (valB s2) == eightW) = false := by simpa using h8
                      rw [this]
                · rw [← HRR.out, HM5.out]
                  cases sn with
                  | true => rfl
                  | false =>
                    have h8 : ¬ greatB (valB s2) = eightW := fun h2 => by simp [h2] at h
                    have h7 : ¬ greatB (valB s2) = sevenW := fun h2 => by simp [h2] at h
                    rw [if_neg (by simp), if_neg h8, if_neg h7]
                    rfl
              go_wp2_with fail
              refine HSP.out.mono ?_
              rintro e w2 ⟨rfl, S2⟩
              have HS2 := Lib.hid S2
              clear c0
              have c0 := S2.cell
              clear S2
              go_wp2_with fail
              refine (wordS szW r HRL.out (by decide) HS2.out).mono ?_
              rw [HW.out]
              rintro e w3 ⟨rfl, S3⟩
              have HS3 := Lib.hid S3
              clear c0 S3
              go_wp2_with fail
              refine (wordS bdW r HRL.out (by decide) HS3.out).mono ?_
              rw [HW2.out]
              rintro e w4 ⟨rfl, S4⟩
              have HS4 := Lib.hid S4
              clear S4
              go_wp2_with fail
              refine (bodyS c sn s2 HL2.out HS4.out HE.out).mono ?_
              generalize (!sn && (greatB (valB s2) == eightW || greatB (valB s2) == sevenW)) = okn at *
              rintro e w5 ⟨rfl, S5⟩
              have HS5 := Lib.hid S5
              clear S5
              go_wp2_with fail
              go_roundg f
              case measure => omega
              case rel => exact ⟨okn, true, _, _, rfl, rfl, HREL.out, HS5.out⟩
      · have HQ : Hid ((s.head? == some 32) = false) := by unfold Hid; exact beq_eq_false_iff_ne.2 h32
        have HV : Hid (R = none) := by unfold Hid; rw [← HRR.out]; unfold mailL; rw [if_neg hs0, if_pos h32]; rfl
        have HL2 : Hid ((spR s).length ≤ 1000000) := by have := spR_len s; have := HZ.out; unfold Hid; omega
        rw [HQ.out] at HSP
        clear hs0 h32
        go_wp2_with fail
        refine HSP.out.mono ?_
        rintro e w2 ⟨rfl, S2⟩
        have HS2 := Lib.hid S2
        clear S2 c0
        go_wp2
        go_ret
        rw [HV.out]
        exact ⟨rfl, _, c, HL2.out, HS2.out⟩
end
end Go.Proofs.YtapenolbbofjkaaGreatDoor

/-! CmV8 -/
namespace Go.Proofs.YtapenolbbofjkaaGreatDoor
open Go.RowKit

section
variable {w0 w : World} {L : List Res} {b pc : Nat}
set_option maxRecDepth 100000 in
set_option maxHeartbeats 2000000 in
theorem more_1 (s : Bs) (hs : s.length ≤ 1000000) (S : Sp w0 [] w (crdR b s :: cmR pc ⟨1, [], ([], []), -1, false⟩ :: L)) (E : Env w0) : Calls Tryz.prog 119 #[.pointer (some ⟨b, 0, none⟩), .pointer (some ⟨pc, 0, none⟩)] w (OutM b pc w0 L (moreC 1 s)) := by
  have HE := Lib.hid E
  have HR := Lib.hid (restS s hs S)
  have c0 := S.pull1.cell
  unfold cmCells at c0
  have HTL : Hid ((trimSp s).length ≤ 1000000) := by
    unfold Hid trimSp Lib.trimB Lib.trimLeftB Lib.trimRightB
    have h1 := (List.dropWhile_sublist (· == 32) (l := (s.reverse.dropWhile (· == 32)).reverse)).length_le
    have h2 := (List.dropWhile_sublist (· == 32) (l := s.reverse)).length_le
    simp only [List.length_reverse] at h1 h2
    omega
  have HV : Hid (moreC 1 s = if (domV (trimSp s)).2 = 0 then some ⟨1, (domV (trimSp s)).1, ([], []), -1, false⟩ else none) := by unfold Hid moreC; simp
  clear S E hs
  generalize trimSp s = x at *
  rcases domV_two x with ⟨_, hd⟩ | ⟨_, hd⟩
  · have HV2 : Hid (moreC 1 s = some ⟨1, smallB x, ([], []), -1, false⟩) := by unfold Hid; rw [HV.out, hd]; rfl
    have HDV := Lib.hid hd
    clear hd
    rw [HV2.out]
    skip
    go_enter Tryz.func119, Tryz.ntmps119
    go_wp2_with fail
    refine HR.out.mono ?_
    rintro e w1 ⟨rfl, S1⟩
    have HS1 := Lib.hid S1
    clear S1 c0
    go_wp2_with fail
    refine (domainS x HS1.out HE.out HTL.out).mono ?_
    rw [HDV.out]
    dsimp only
    rintro e w2 ⟨rfl, S2⟩
    have c2 := S2.pull1.cell
    have f2 := S2.pull1.free
    have S3 := (S2.pull1.set (o := 1) (.string ⟨(smallB x).toArray⟩)).pull1
    have HSP := Lib.hid (spacesS [] (by simp) S3)
    unfold cmCells at c2
    clear S2 S3
    go_wp2_with fail
    refine HSP.out.mono ?_
    rintro e w3 ⟨rfl, S4⟩
    have c4 := S4.cell
    have HS4 := Lib.hid S4
    clear S4 c2 f2
    go_wp2
    go_ret
    exact ⟨rfl, HS4.out⟩
  · have HV2 : Hid (moreC 1 s = none) := by unfold Hid; rw [HV.out, hd]; rfl
    have HDV := Lib.hid hd
    clear hd
    rw [HV2.out]
    skip
    go_enter Tryz.func119, Tryz.ntmps119
    go_wp2_with fail
    refine HR.out.mono ?_
    rintro e w1 ⟨rfl, S1⟩
    have HS1 := Lib.hid S1
    clear S1 c0
    go_wp2_with fail
    refine (domainS x HS1.out HE.out HTL.out).mono ?_
    rw [HDV.out]
    dsimp only
    rintro e w2 ⟨rfl, S2⟩
    have c2 := S2.pull1.cell
    have f2 := S2.pull1.free
    have S3 := (S2.pull1.set (o := 1) (.string ⟨#[]⟩)).pull1
    have HSP := Lib.hid (spacesS [] (by simp) S3)
    unfold cmCells at c2
    clear S2 S3
    go_wp2_with fail
    refine HSP.out.mono ?_
    rintro e w3 ⟨rfl, S4⟩
    have c4 := S4.cell
    have HS4 := Lib.hid S4
    clear S4 c2 f2
    go_wp2
    go_ret
    exact ⟨rfl, [], ⟨1, [], ([], []), -1, false⟩, by simp, HS4.out⟩
set_option maxRecDepth 100000 in
set_option maxHeartbeats 2000000 in
theorem more_2 (s : Bs) (hs : s.length ≤ 1000000) (S : Sp w0 [] w (crdR b s :: cmR pc ⟨2, [], ([], []), -1, false⟩ :: L)) (E : Env w0) : Calls Tryz.prog 119 #[.pointer (some ⟨b, 0, none⟩), .pointer (some ⟨pc, 0, none⟩)] w (OutM b pc w0 L (moreC 2 s)) := by
  have HE := Lib.hid E
  have HR := Lib.hid (restS s hs S)
  have c0 := S.pull1.cell
  unfold cmCells at c0
  have HTL : Hid ((trimSp s).length ≤ 1000000) := by
    unfold Hid trimSp Lib.trimB Lib.trimLeftB Lib.trimRightB
    have h1 := (List.dropWhile_sublist (· == 32) (l := (s.reverse.dropWhile (· == 32)).reverse)).length_le
    have h2 := (List.dropWhile_sublist (· == 32) (l := s.reverse)).length_le
    simp only [List.length_reverse] at h1 h2
    omega
  have HV : Hid (moreC 2 s = if (domV (trimSp s)).2 = 0 then some ⟨2, (domV (trimSp s)).1, ([], []), -1, false⟩ else none) := by unfold Hid moreC; simp
  clear S E hs
  generalize trimSp s = x at *
  rcases domV_two x with ⟨_, hd⟩ | ⟨_, hd⟩
  · have HV2 : Hid (moreC 2 s = some ⟨2, smallB x, ([], []), -1, false⟩) := by unfold Hid; rw [HV.out, hd]; rfl
    have HDV := Lib.hid hd
    clear hd
    rw [HV2.out]
    skip
    go_enter Tryz.func119, Tryz.ntmps119
    go_wp2_with fail
    refine HR.out.mono ?_
    rintro e w1 ⟨rfl, S1⟩
    have HS1 := Lib.hid S1
    clear S1 c0
    go_wp2_with fail
    refine (domainS x HS1.out HE.out HTL.out).mono ?_
    rw [HDV.out]
    dsimp only
    rintro e w2 ⟨rfl, S2⟩
    have c2 := S2.pull1.cell
    have f2 := S2.pull1.free
    have S3 := (S2.pull1.set (o := 1) (.string ⟨(smallB x).toArray⟩)).pull1
    have HSP := Lib.hid (spacesS [] (by simp) S3)
    unfold cmCells at c2
    clear S2 S3
    go_wp2_with fail
    refine HSP.out.mono ?_
    rintro e w3 ⟨rfl, S4⟩
    have c4 := S4.cell
    have HS4 := Lib.hid S4
    clear S4 c2 f2
    go_wp2
    go_ret
    exact ⟨rfl, HS4.out⟩
  · have HV2 : Hid (moreC 2 s = none) := by unfold Hid; rw [HV.out, hd]; rfl
    have HDV := Lib.hid hd
    clear hd
    rw [HV2.out]
    skip
    go_enter Tryz.func119, Tryz.ntmps119
    go_wp2_with fail
    refine HR.out.mono ?_
    rintro e w1 ⟨rfl, S1⟩
    have HS1 := Lib.hid S1
    clear S1 c0
    go_wp2_with fail
    refine (domainS x HS1.out HE.out HTL.out).mono ?_
    rw [HDV.out]
    dsimp only
    rintro e w2 ⟨rfl, S2⟩
    have c2 := S2.pull1.cell
    have f2 := S2.pull1.free
    have S3 := (S2.pull1.set (o := 1) (.string ⟨#[]⟩)).pull1
    have HSP := Lib.hid (spacesS [] (by simp) S3)
    unfold cmCells at c2
    clear S2 S3
    go_wp2_with fail
    refine HSP.out.mono ?_
    rintro e w3 ⟨rfl, S4⟩
    have c4 := S4.cell
    have HS4 := Lib.hid S4
    clear S4 c2 f2
    go_wp2
    go_ret
    exact ⟨rfl, [], ⟨2, [], ([], []), -1, false⟩, by simp, HS4.out⟩
set_option maxRecDepth 100000 in
set_option maxHeartbeats 2000000 in
theorem more_3 (s : Bs) (hs : s.length ≤ 1000000) (S : Sp w0 [] w (crdR b s :: cmR pc ⟨3, [], ([], []), -1, false⟩ :: L)) (E : Env w0) : Calls Tryz.prog 119 #[.pointer (some ⟨b, 0, none⟩), .pointer (some ⟨pc, 0, none⟩)] w (OutM b pc w0 L (moreC 3 s)) := by
  have HM := Lib.hid (mailS ⟨3, [], ([], []), -1, false⟩ s hs S E)
  have c0 := S.pull1.cell
  unfold cmCells at c0
  have HV : Hid (moreC 3 s = mailC ⟨3, [], ([], []), -1, false⟩ s) := by unfold Hid moreC mailC; simp
  rw [HV.out]
  clear S E hs
  generalize mailC ⟨3, [], ([], []), -1, false⟩ s = R at *
  go_enter Tryz.func119, Tryz.ntmps119
  go_wp2_with fail
  cases R with
  | some c =>
    refine HM.out.mono ?_
    rintro e w1 ⟨rfl, S1⟩
    have HSP := Lib.hid (spacesS [] (by simp) S1)
    clear S1 c0
    go_wp2_with fail
    refine HSP.out.mono ?_
    rintro e w3 ⟨rfl, S4⟩
    have c4 := S4.cell
    have HS4 := Lib.hid S4
    clear S4
    go_wp2
    go_ret
    exact ⟨rfl, HS4.out⟩
  | none =>
    refine HM.out.mono ?_
    rintro e w1 ⟨rfl, s1, c1, hs1, S1⟩
    have HSP := Lib.hid (spacesS s1 hs1 S1)
    have HL : Hid ((spR s1).length ≤ 1000000) := by have := spR_len s1; unfold Hid; omega
    clear S1 c0 hs1
    go_wp2_with fail
    refine HSP.out.mono ?_
    rintro e w3 ⟨rfl, S4⟩
    have c4 := S4.cell
    have HS4 := Lib.hid S4
    clear S4
    go_wp2
    go_ret
    exact ⟨rfl, _, _, HL.out, HS4.out⟩
set_option maxRecDepth 100000 in
set_option maxHeartbeats 2000000 in
theorem more_o (v : Int) (s : Bs) (hs : s.length ≤ 1000000) (S : Sp w0 [] w (crdR b s :: cmR pc ⟨v, [], ([], []), -1, false⟩ :: L)) (E : Env w0) (h1 : ¬ v = 1) (h2 : ¬ v = 2) (h3 : ¬ v = 3) (h4 : ¬ v = 4) (h7 : ¬ v = 7) (h9 : ¬ v = 9) : Calls Tryz.prog 119 #[.pointer (some ⟨b, 0, none⟩), .pointer (some ⟨pc, 0, none⟩)] w (OutM b pc w0 L (moreC v s)) := by
  have HV : Hid (moreC v s = if spR s = [] then some ⟨v, [], ([], []), -1, false⟩ else none) := by unfold Hid moreC; simp [*]
  have c0 := S.pull1.cell
  unfold cmCells at c0
  have HSP := Lib.hid (spacesS s hs S)
  have HL : Hid ((spR s).length ≤ 1000000) := by have := spR_len s; unfold Hid; omega
  rw [HV.out]
  clear S E hs
  generalize spR s = r at *
  by_cases hr : r = []
  · subst hr
    rw [if_pos rfl]
    go_enter Tryz.func119, Tryz.ntmps119
    go_wp2_with fail
    refine HSP.out.mono ?_
    rintro e w3 ⟨rfl, S4⟩
    have c4 := S4.cell
    have HS4 := Lib.hid S4
    clear S4 c0
    go_wp2
    go_ret
    exact ⟨rfl, HS4.out⟩
  · rw [if_neg hr]
    have hre : r.isEmpty = false := by simpa using hr
    clear hr
    go_enter Tryz.func119, Tryz.ntmps119
    go_wp2_with fail
    refine HSP.out.mono ?_
    rintro e w3 ⟨rfl, S4⟩
    have c4 := S4.cell
    have HS4 := Lib.hid S4
    clear S4 c0
    go_wp2
    go_ret
    exact ⟨by simp [hre], r, _, HL.out, HS4.out⟩
set_option maxRecDepth 100000 in
set_option maxHeartbeats 2000000 in
theorem more_7 (s : Bs) (hs : s.length ≤ 1000000) (S : Sp w0 [] w (crdR b s :: cmR pc ⟨7, [], ([], []), -1, false⟩ :: L)) (E : Env w0) : Calls Tryz.prog 119 #[.pointer (some ⟨b, 0, none⟩), .pointer (some ⟨pc, 0, none⟩)] w (OutM b pc w0 L (moreC 7 s)) := by
  have HR := Lib.hid (restS s hs S)
  have c0 := S.pull1.cell
  unfold cmCells at c0
  have HTL : Hid ((trimSp s).length ≤ 1000000) := by
    unfold Hid trimSp Lib.trimB Lib.trimLeftB Lib.trimRightB
    have h1 := (List.dropWhile_sublist (· == 32) (l := (s.reverse.dropWhile (· == 32)).reverse)).length_le
    have h2 := (List.dropWhile_sublist (· == 32) (l := s.reverse)).length_le
    simp only [List.length_reverse] at h1 h2
    omega
  have HV : Hid (moreC 7 s = if printB (trimSp s) = true ∧ ((7 : Int) = 7 ∨ trimSp s ≠ []) then some ⟨7, trimSp s, ([], []), -1, false⟩ else none) := by unfold Hid moreC; simp
  clear S E hs
  generalize trimSp s = x at *
  cases hp : printB x with
  | false =>
    have HV2 : Hid (moreC 7 s = none) := by unfold Hid; rw [HV.out, hp]; simp
    have HP := Lib.hid hp
    clear hp
    rw [HV2.out]
    go_enter Tryz.func119, Tryz.ntmps119
    go_wp2_with fail
    refine HR.out.mono ?_
    rintro e w1 ⟨rfl, S1⟩
    have c1 := S1.pull1.cell
    have f1 := S1.pull1.free
    have S2 := (S1.pull1.set (o := 1) (.string ⟨x.toArray⟩)).pull1
    have c2 := S2.pull1.cell
    have HS2 := Lib.hid S2
    unfold cmCells at c1 c2
    clear S1 S2 c0
    go_wp2_with fail
    refine (printedS _ HS2.out HTL.out).mono ?_
    rw [HP.out]
    rintro e w3 ⟨rfl, S3⟩
    have c3 := S3.pull1.cell
    unfold cmCells at c3
    have HSP := Lib.hid (spacesS [] (by simp) S3)
    clear S3 c1 f1 c2
    go_wp2_with fail
    refine HSP.out.mono ?_
    rintro e w4 ⟨rfl, S4⟩
    have c4 := S4.cell
    have HS4 := Lib.hid S4
    clear S4 c3
    go_wp2
    go_ret
    exact ⟨rfl, [], ⟨7, x, ([], []), -1, false⟩, by simp, HS4.out⟩
  | true =>
    have HV2 : Hid (moreC 7 s = some ⟨7, x, ([], []), -1, false⟩) := by unfold Hid; rw [HV.out, hp]; simp
    have HP := Lib.hid hp
    clear hp
    rw [HV2.out]
    go_enter Tryz.func119, Tryz.ntmps119
    go_wp2_with fail
    refine HR.out.mono ?_
    rintro e w1 ⟨rfl, S1⟩
    have c1 := S1.pull1.cell
    have f1 := S1.pull1.free
    have S2 := (S1.pull1.set (o := 1) (.string ⟨x.toArray⟩)).pull1
    have c2 := S2.pull1.cell
    have HS2 := Lib.hid S2
    unfold cmCells at c1 c2
    clear S1 S2 c0
    go_wp2_with fail
    refine (printedS _ HS2.out HTL.out).mono ?_
    rw [HP.out]
    rintro e w3 ⟨rfl, S3⟩
    have c3 := S3.pull1.cell
    unfold cmCells at c3
    have HSP := Lib.hid (spacesS [] (by simp) S3)
    clear S3 c1 f1 c2
    go_wp2_with fail
    refine HSP.out.mono ?_
    rintro e w4 ⟨rfl, S4⟩
    have c4 := S4.cell
    have HS4 := Lib.hid S4
    clear S4 c3
    go_wp2
    go_ret
    exact ⟨rfl, HS4.out⟩
set_option maxRecDepth 100000 in
set_option maxHeartbeats 2000000 in
theorem more_9 (s : Bs) (hs : s.length ≤ 1000000) (S : Sp w0 [] w (crdR b s :: cmR pc ⟨9, [], ([], []), -1, false⟩ :: L)) (E : Env w0) : Calls Tryz.prog 119 #[.pointer (some ⟨b, 0, none⟩), .pointer (some ⟨pc, 0, none⟩)] w (OutM b pc w0 L (moreC 9 s)) := by
  have HR := Lib.hid (restS s hs S)
  have c0 := S.pull1.cell
  unfold cmCells at c0
  have HTL : Hid ((trimSp s).length ≤ 1000000) := by
    unfold Hid trimSp Lib.trimB Lib.trimLeftB Lib.trimRightB
    have h1 := (List.dropWhile_sublist (· == 32) (l := (s.reverse.dropWhile (· == 32)).reverse)).length_le
    have h2 := (List.dropWhile_sublist (· == 32) (l := s.reverse)).length_le
    simp only [List.length_reverse] at h1 h2
    omega
  have HV : Hid (moreC 9 s = if printB (trimSp s) = true ∧ ((9 : Int) = 7 ∨ trimSp s ≠ []) then some ⟨9, trimSp s, ([], []), -1, false⟩ else none) := by unfold Hid moreC; simp
  clear S E hs
  generalize trimSp s = x at *
  cases hp : printB x with
  | false =>
    have HV2 : Hid (moreC 9 s = none) := by unfold Hid; rw [HV.out, hp]; simp
    have HP := Lib.hid hp
    clear hp
    rw [HV2.out]
    go_enter Tryz.func119, Tryz.ntmps119
    go_wp2_with fail
    refine HR.out.mono ?_
    rintro e w1 ⟨rfl, S1⟩
    have c1 := S1.pull1.cell
    have f1 := S1.pull1.free
    have S2 := (S1.pull1.set (o := 1) (.string ⟨x.toArray⟩)).pull1
    have c2 := S2.pull1.cell
    have HS2 := Lib.hid S2
    unfold cmCells at c1 c2
    clear S1 S2 c0
    go_wp2_with fail
    refine (printedS _ HS2.out HTL.out).mono ?_
    rw [HP.out]
    rintro e w3 ⟨rfl, S3⟩
    have c3 := S3.pull1.cell
    unfold cmCells at c3
    have HSP := Lib.hid (spacesS [] (by simp) S3)
    clear S3 c1 f1 c2
    go_wp2_with fail
    refine HSP.out.mono ?_
    rintro e w4 ⟨rfl, S4⟩
    have c4 := S4.cell
    have HS4 := Lib.hid S4
    clear S4 c3
    go_wp2
    go_ret
    exact ⟨rfl, [], ⟨9, x, ([], []), -1, false⟩, by simp, HS4.out⟩
  | true =>
    by_cases hx : x = []
    · subst hx
      have HV2 : Hid (moreC 9 s = none) := by unfold Hid; rw [HV.out]; simp
      have HP := Lib.hid hp
      clear hp
      rw [HV2.out]
      go_enter Tryz.func119, Tryz.ntmps119
      go_wp2_with fail
      refine HR.out.mono ?_
      rintro e w1 ⟨rfl, S1⟩
      have c1 := S1.pull1.cell
      have f1 := S1.pull1.free
      have S2 := (S1.pull1.set (o := 1) (.string ⟨#[]⟩)).pull1
      have c2 := S2.pull1.cell
      have HS2 := Lib.hid S2
      unfold cmCells at c1 c2
      clear S1 S2 c0
      go_wp2_with fail
      refine (printedS _ HS2.out HTL.out).mono ?_
      rw [HP.out]
      rintro e w3 ⟨rfl, S3⟩
      have c3 := S3.pull1.cell
      unfold cmCells at c3
      have HSP := Lib.hid (spacesS [] (by simp) S3)
      clear S3 c1 f1 c2
      go_wp2_with fail
      refine HSP.out.mono ?_
      rintro e w4 ⟨rfl, S4⟩
      have c4 := S4.cell
      have HS4 := Lib.hid S4
      clear S4 c3
      go_wp2
      go_ret
      exact ⟨rfl, [], ⟨9, [], ([], []), -1, false⟩, by simp, HS4.out⟩
    · have HV2 : Hid (moreC 9 s = some ⟨9, x, ([], []), -1, false⟩) := by unfold Hid; rw [HV.out, hp]; simp [hx]
      have hxe : x.isEmpty = false := by simpa using hx
      have HP := Lib.hid hp
      clear hp hx
      rw [HV2.out]
      go_enter Tryz.func119, Tryz.ntmps119
      go_wp2_with fail
      refine HR.out.mono ?_
      rintro e w1 ⟨rfl, S1⟩
      have c1 := S1.pull1.cell
      have f1 := S1.pull1.free
      have S2 := (S1.pull1.set (o := 1) (.string ⟨x.toArray⟩)).pull1
      have c2 := S2.pull1.cell
      have HS2 := Lib.hid S2
      unfold cmCells at c1 c2
      clear S1 S2 c0
      go_wp2_with fail
      refine (printedS _ HS2.out HTL.out).mono ?_
      rw [HP.out]
      rintro e w3 ⟨rfl, S3⟩
      have c3 := S3.pull1.cell
      unfold cmCells at c3
      have HSP := Lib.hid (spacesS [] (by simp) S3)
      clear S3 c1 f1 c2
      go_wp2_with fail
      refine HSP.out.mono ?_
      rintro e w4 ⟨rfl, S4⟩
      have c4 := S4.cell
      have HS4 := Lib.hid S4
      clear S4 c3
      go_wp2
      go_ret
      exact ⟨rfl, HS4.out⟩
end
end Go.Proofs.YtapenolbbofjkaaGreatDoor

/-! CmV9 -/
namespace Go.Proofs.YtapenolbbofjkaaGreatDoor
open Go.RowKit

section
variable {w0 w : World} {L : List Res} {b pc : Nat}
set_option maxRecDepth 100000 in
set_option maxHeartbeats 4000000 in
theorem more_4 (s : Bs) (hs : s.length ≤ 1000000) (S : Sp w0 [] w (crdR b s :: cmR pc ⟨4, [], ([], []), -1, false⟩ :: L)) (E : Env w0) : Calls Tryz.prog 119 #[.pointer (some ⟨b, 0, none⟩), .pointer (some ⟨pc, 0, none⟩)] w (OutM b pc w0 L (moreC 4 s)) := by
  have HB := Lib.hid (cboxU toB s hs (by decide) S E)
  have c0 := S.pull1.cell
  unfold cmCells at c0
  have HV : Hid (moreC 4 s = (boxC toB s).bind fun q => if noBoxE q.1 = false ∧ spR q.2 = [] then some ⟨4, [], q.1, -1, false⟩ else none) := by unfold Hid moreC; simp
  generalize moreC 4 s = R at *
  generalize boxC toB s = o at *
  clear S E hs
  go_enter Tryz.func119, Tryz.ntmps119
  go_wp2_with fail
  refine HB.out.mono ?_
  rintro e w1 ⟨⟨l, d⟩, ok, s1, rfl, hs1, S1, ho1, ho2⟩
  have HF : Hid (ok = false → R = none) := fun h => by rw [HV.out, ho2 h]; rfl
  have HT : Hid (ok = true → R = if noBoxE (l, d) = false ∧ spR s1 = [] then some ⟨4, [], (l, d), -1, false⟩ else none) := fun h => by rw [HV.out, ho1 h]; rfl
  have c1 := S1.pull1.cell
  have f1 := S1.pull1.free
  have S2 := ((S1.pull1.set (o := 2) (.string ⟨l.toArray⟩)).set (o := 3) (.string ⟨d.toArray⟩)).pull1
  have HS2 : Hid (Sp w0 [] _ (crdR b s1 :: cmR pc ⟨4, [], (l, d), -1, false⟩ :: L)) := S2
  have HSP := Lib.hid (spacesS s1 hs1 HS2.out)
  have HL : Hid ((spR s1).length ≤ 1000000) := by have := spR_len s1; unfold Hid; omega
  have c2 := HS2.out.pull1.cell
  unfold cmCells at c1 c2
  dsimp only at c1 c2
  clear S1 S2 HB hs1 ho1 ho2 c0 HV
  simp only [mbAgg]
  cases ok with
  | false =>
    have HN := Lib.hid (HF.out rfl)
    go_wp2_with fail
    refine HSP.out.mono ?_
    rintro e w3 ⟨rfl, S4⟩
    have c4 := S4.cell
    have HS4 := Lib.hid S4
    clear S4 c1 f1 c2
    go_wp2
    go_ret
    rw [HN.out]
    exact ⟨rfl, _, _, HL.out, HS4.out⟩
  | true =>
    have HR := Lib.hid (HT.out rfl)
    have hor : (l = [] ∧ d = []) ∨ (l = [] ∧ ¬ d = []) ∨ ¬ l = [] := by
      by_cases h : l = []
      · by_cases h' : d = []
        · exact .inl ⟨h, h'⟩
        · exact .inr (.inl ⟨h, h'⟩)
      · exact .inr (.inr h)
    rcases hor with ⟨rfl, rfl⟩ | ⟨rfl, h⟩ | h
    · have HN : Hid (R = none) := by unfold Hid; rw [HR.out, if_neg]; rintro ⟨h, _⟩; simp [noBoxE] at h
      go_wp2_with fail
      refine HSP.out.mono ?_
      rintro e w3 ⟨rfl, S4⟩
      have c4 := S4.cell
      have HS4 := Lib.hid S4
      clear S4 c1 f1 c2
      go_wp2
      go_ret
      rw [HN.out]
      exact ⟨rfl, _, _, HL.out, HS4.out⟩
    · have HNB : Hid (noBoxE ([], d) = false) := by unfold Hid; simp [noBoxE, h]
      by_cases hr : spR s1 = []
      · have HN : Hid (R = some ⟨4, [], ([], d), -1, false⟩) := by unfold Hid; rw [HR.out, if_pos ⟨HNB.out, hr⟩]
        rw [hr] at HSP
        clear hr
        go_wp2_with fail
        refine HSP.out.mono ?_
        rintro e w3 ⟨rfl, S4⟩
        have c4 := S4.cell
        have HS4 := Lib.hid S4
        clear S4 c1 f1 c2 h
        go_wp2
        go_ret
        rw [HN.out]
        exact ⟨rfl, HS4.out⟩
      · have HN : Hid (R = none) := by unfold Hid; rw [HR.out, if_neg fun h2 => hr h2.2]
        have hre : (spR s1).isEmpty = false := by simpa using hr
        clear hr HR HT
        generalize spR s1 = r at *
        go_wp2_with fail
        refine HSP.out.mono ?_
        rintro e w3 ⟨rfl, S4⟩
        have c4 := S4.cell
        have HS4 := Lib.hid S4
        clear S4 c1 f1 c2 h
        go_wp2
        go_ret
        rw [HN.out]
        exact ⟨by simp [hre], r, _, HL.out, HS4.out⟩
    · have HNB : Hid (noBoxE (l, d) = false) := by unfold Hid; simp [noBoxE, h]
      by_cases hr : spR s1 = []
      · have HN : Hid (R = some ⟨4, [], (l, d), -1, false⟩) := by unfold Hid; rw [HR.out, if_pos ⟨HNB.out, hr⟩]
        rw [hr] at HSP
        clear hr
        go_wp2_with fail
        refine HSP.out.mono ?_
        rintro e w3 ⟨rfl, S4⟩
        have c4 := S4.cell
        have HS4 := Lib.hid S4
        clear S4 c1 f1 c2 h
        go_wp2
        go_ret
        rw [HN.out]
        exact ⟨rfl, HS4.out⟩
      · have HN : Hid (R = none) := by unfold Hid; rw [HR.out, if_neg fun h2 => hr h2.2]
        have hre : (spR s1).isEmpty = false := by simpa using hr
        clear hr HR HT
        generalize spR s1 = r at *
        go_wp2_with fail
        refine HSP.out.mono ?_
        rintro e w3 ⟨rfl, S4⟩
        have c4 := S4.cell
        have HS4 := Lib.hid S4
        clear S4 c1 f1 c2 h
        go_wp2
        go_ret
        rw [HN.out]
        exact ⟨by simp [hre], r, _, HL.out, HS4.out⟩
theorem moreS (v : Int) (s : Bs) (hs : s.length ≤ 1000000) (S : Sp w0 [] w (crdR b s :: cmR pc ⟨v, [], ([], []), -1, false⟩ :: L)) (E : Env w0) : Calls Tryz.prog 119 #[.pointer (some ⟨b, 0, none⟩), .pointer (some ⟨pc, 0, none⟩)] w (OutM b pc w0 L (moreC v s)) := by
  by_cases h1 : v = 1
  · subst h1; exact more_1 s hs S E
  by_cases h2 : v = 2
  · subst h2; exact more_2 s hs S E
  by_cases h3 : v = 3
  · subst h3; exact more_3 s hs S E
  by_cases h4 : v = 4
  · subst h4; exact more_4 s hs S E
  by_cases h7 : v = 7
  · subst h7; exact more_7 s hs S E
  by_cases h9 : v = 9
  · subst h9; exact more_9 s hs S E
  exact more_o v s hs S E h1 h2 h3 h4 h7 h9
end
end Go.Proofs.YtapenolbbofjkaaGreatDoor

/-! CmV10 -/
namespace Go.Proofs.YtapenolbbofjkaaGreatDoor
open Go.RowKit

theorem verbAt0 (w : World) : (Instr.index 151 (.agg verbVals) (.int .i64 0)).run Tryz.prog w = .ok (.string ⟨#[]⟩) w := by kernel_rfl
theorem verbAtN (k : Nat) (h : k < 10) (w : World) : (Instr.index 151 (.agg verbVals) (.int .i64 k)).run Tryz.prog w = .ok (.string ⟨((verbWs[k]?).getD []).toArray⟩) w := by
  by_cases h0 : k = 0
  · subst h0; exact verbAt0 w
  · have := verbAt (k : Int) (by omega) (by omega) w
    rw [Int.toNat_natCast] at this
    exact this
def verbTo (g : Bs) (k : Nat) : Nat := ((List.range k).filter fun i => decide (0 < i) && (verbWs[i]? == some g)).getLast?.getD 0
theorem verbTo_next (g : Bs) (k : Nat) : verbTo g (k + 1) = if (decide (0 < k) && (verbWs[k]? == some g)) = true then k else verbTo g k := by
  unfold verbTo
  rw [List.range_succ, List.filter_append, List.filter_cons, List.filter_nil]
  split
  · simp
  · rw [List.append_nil]
theorem verb_eq (g : Bs) (k : Nat) (h : k < 10) : (verbWs[k]? == some g) = (g == (verbWs[k]?).getD []) := by
  have hk : k < verbWs.length := h
  rw [List.getElem?_eq_getElem hk]
  rw [Bool.eq_iff_iff]
  simp only [beq_iff_eq, Option.some.injEq, Option.getD_some]
  exact eq_comm
theorem verbN_to (s : Bs) : verbN s = verbTo (greatB s) 10 := rfl
section
variable {w0 w : World} {L : List Res} {b pc : Nat}
set_option maxRecDepth 100000 in
set_option maxHeartbeats 4000000 in
theorem cmParseS (s : Bs) (hs : s.length ≤ 1000000) (S : Sp w0 [] w L) (E : Env w0) : Calls Tryz.prog 92 #[.string ⟨s.toArray⟩] w fun e w2 => e = .returned (.tuple #[cmAgg (cmParse s).1, .int .i64 (cmParse s).2]) ∧ Sp w0 [] w2 L := by
  have HE := Lib.hid E
  have hsz : ∀ (w : World) (o : Obj), (w.alloc o).heap.size = w.heap.size + 1 := fun w o => by simp
  have S2 := (S.box (cmCells cm0) 131).box #[.string ⟨s.toArray⟩, .func (.func 115) #[] #[]] 150
  simp only [hsz] at S2
  have HVAL := Lib.hid (valueS s hs S2 E)
  have HRL : Hid ((valR s).length ≤ 1000000) := by have := valR_len s; unfold Hid; omega
  have HVL : Hid ((valB s).length ≤ 1000000) := by have := valB_len s; unfold Hid; omega
  have HP : Hid (cmParse s = ((if verbN (valB s) = 0 then (cm0, 1) else match moreC (verbN (valB s)) (valR s) with | some c => (c, 0) | none => (cm0, 2)) : Cm × Int)) := rfl
  unfold cmCells cm0 at HVAL
  dsimp only at HVAL
  clear S S2 E hs hsz
  generalize valR s = r at *
  generalize valB s = v at *
  go_enter Tryz.func92, Tryz.ntmps92
  go_wp2_with fail
  refine HVAL.out.mono ?_
  generalize w.heap.size + 1 = q1 at *
  generalize w.heap.size = q0 at *
  rintro e w1 ⟨rfl, S1⟩
  have S3 := S1.box #[.int .i64 0, .string ⟨#[]⟩, .string ⟨#[]⟩, .string ⟨#[]⟩, .int .i64 (-1), .bool false] 131
  have HS3 : Hid (Sp w0 [] _ (crdR q1 r :: cmR w1.heap.size ⟨(0 : Nat), [], ([], []), -1, false⟩ :: boxR q0 #[.int .i64 0, .string ⟨#[]⟩, .string ⟨#[]⟩, .string ⟨#[]⟩, .int .i64 0, .bool false] 131 :: L)) := S3.pull1
  clear S1 S3 HVAL
  go_wp2_with fail
  refine (verbsS HS3.out).mono ?_
  generalize w1.heap.size = q2 at *
  rintro e w2 ⟨rfl, S4⟩
  have HS4 := Lib.hid S4
  clear S4 HS3
  go_wp2_with fail
  go_loopw [16] (fun i wr => ∃ k : Nat, i = .int .i64 k ∧ k ≤ 10 ∧ Sp w0 [] wr (crdR q1 r :: cmR q2 ⟨(verbTo (greatB v) k : Nat), [], ([], []), -1, false⟩ :: boxR q0 #[.int .i64 0, .string ⟨#[]⟩, .string ⟨#[]⟩, .string ⟨#[]⟩, .int .i64 0, .bool false] 131 :: L)) (fun i _ => 10 - (intOf i).toNat)
  case atStart => exact ⟨0, rfl, by decide, HS4.out⟩
  case round =>
    clear HS4
    obtain ⟨k, rfl, hk, S⟩ := hrel
    have HS := Lib.hid S
    have c0 := S.cell
    have c1 := S.pull1.cell
    have f1 := S.pull1.free
    unfold cmCells at c1
    dsimp only at c1
    clear S
    by_cases hlt : k < 10
    · have hlt' : (k : Int) < 10 := by omega
      have hix := verbAtN k hlt
      have HN := Lib.hid (verbTo_next (greatB v) k)
      have HQ := Lib.hid (verb_eq (greatB v) k hlt)
      by_cases hk0 : k = 0
      · have hk1 : (k : Int) ≤ 0 := by omega
        have HN2 : Hid (verbTo (greatB v) (k + 1) = verbTo (greatB v) k) := by unfold Hid; rw [HN.out, if_neg (by simp [hk0])]
        generalize (verbWs[k]?).getD [] = wk at *
        clear hk0 HQ
        go_wp2
        go_roundw
        case rel => exact ⟨k + 1, by go_num, by omega, by rw [HN2.out]; exact HS.out⟩
        case measure => simp [intOf]; omega
      · have hk1 : (0 : Int) < k := by omega
        have hk2 : 0 < k := by omega
        have HSA := Lib.hid (sameSp v ((verbWs[k]?).getD []) HS.out HVL.out)
        rw [← HQ.out] at HSA
        cases hb : (verbWs[k]? == some (greatB v)) with
        | true =>
          have HN2 : Hid (verbTo (greatB v) (k + 1) = k) := by unfold Hid; rw [HN.out, hb, if_pos (by simp [hk2])]
          rw [hb] at HSA
          generalize (verbWs[k]?).getD [] = wk at *
          clear hb HQ
          go_wp2_with fail
          refine HSA.out.mono ?_
          rintro e w3 ⟨rfl, S3⟩
          clear c0 c1 f1
          have c1 := S3.pull1.cell
          have f1 := S3.pull1.free
          have HSE := Lib.hid (S3.pull1.set (o := 0) (.int .i64 k)).pull1
          unfold cmCells at c1
          dsimp only at c1
          clear S3
          go_wp2
          go_roundw
          case rel => exact ⟨k + 1, by go_num, by omega, by rw [HN2.out]; exact HSE.out⟩
          case measure => simp [intOf]; omega
        | false =>
          have HN2 : Hid (verbTo (greatB v) (k + 1) = verbTo (greatB v) k) := by unfold Hid; rw [HN.out, hb, if_neg (by simp)]
          rw [hb] at HSA
          generalize (verbWs[k]?).getD [] = wk at *
          clear hb HQ
          go_wp2_with fail
          refine HSA.out.mono ?_
          rintro e w3 ⟨rfl, S3⟩
          have HS3 := Lib.hid S3
          clear c0 c1 f1 S3
          go_wp2
          go_roundw
          case rel => exact ⟨k + 1, by go_num, by omega, by rw [HN2.out]; exact HS3.out⟩
          case measure => simp [intOf]; omega
    · obtain rfl : k = 10 := by omega
      have HVN : Hid (verbTo (greatB v) 10 = verbN v) := rfl
      rw [HVN.out] at HS c1
      generalize verbN v = n at *
      by_cases hn : n = 0
      · subst hn
        have HV : Hid (cmParse s = (cm0, 1)) := by unfold Hid; rw [HP.out, if_pos rfl]
        have g0 := HS.out.pull2.cell
        have f0 := HS.out.pull2.free
        have HSE := Lib.hid ((((((HS.out.pull2.set (o := 0) (.int .i64 0)).set (o := 1) (.string ⟨#[]⟩)).set (o := 2) (.string ⟨#[]⟩)).set (o := 3) (.string ⟨#[]⟩)).set (o := 4) (.int .i64 0)).set (o := 5) (.bool false)).drop.drop.drop
        clear c0 f1
        go_wp2
        rw [HV.out]
        exact bodyPost_ret (v := .tuple #[cmAgg cm0, .int .i64 1]) (by simp [results, Tryz.results92, go_sem, g0, cmAgg, cm0]) rfl ⟨rfl, HSE.out⟩
      · have hn' : ((n : Int) == 0) = false := by simp; omega
        have HM := Lib.hid (moreS n r HRL.out HS.out HE.out)
        have HP2 : Hid (cmParse s = ((match moreC n r with | some c => (c, 0) | none => (cm0, 2)) : Cm × Int)) := by unfold Hid; rw [HP.out, if_neg hn]
        have hn0 : ¬ (n : Int) = 0 := by omega
        clear hn
        generalize moreC n r = R at *
        cases R with
        | none =>
          have HV : Hid (cmParse s = (cm0, 2)) := HP2.out
          go_wp2_with fail
          refine HM.out.mono ?_
          rintro e w3 ⟨rfl, sx, cx, _, S3⟩
          have g0 := S3.pull2.cell
          have f0 := S3.pull2.free
          have HSE := Lib.hid ((((((S3.pull2.set (o := 0) (.int .i64 0)).set (o := 1) (.string ⟨#[]⟩)).set (o := 2) (.string ⟨#[]⟩)).set (o := 3) (.string ⟨#[]⟩)).set (o := 4) (.int .i64 0)).set (o := 5) (.bool false)).drop.drop.drop
          clear c0 c1 f1 S3
          go_wp2
          rw [HV.out]
          exact bodyPost_ret (v := .tuple #[cmAgg cm0, .int .i64 2]) (by simp [results, Tryz.results92, go_sem, g0, cmAgg, cm0]) rfl ⟨rfl, HSE.out⟩
        | some c =>
          have HV : Hid (cmParse s = (c, 0)) := HP2.out
          go_wp2_with fail
          refine HM.out.mono ?_
          rintro e w3 ⟨rfl, S3⟩
          obtain ⟨cv, ct, ⟨cl, cd⟩, cz, ce⟩ := c
          have g2 := S3.pull1.cell
          have g0 := S3.pull2.cell
          have f0 := S3.pull2.free
          unfold cmCells at g2
          dsimp only at g2
          have HSE := Lib.hid ((((((S3.pull2.set (o := 0) (.int .i64 cv)).set (o := 1) (.string ⟨ct.toArray⟩)).set (o := 2) (.string ⟨cl.toArray⟩)).set (o := 3) (.string ⟨cd.toArray⟩)).set (o := 4) (.int .i64 cz)).set (o := 5) (.bool ce)).drop.drop.drop
          clear c0 c1 f1 S3
          go_wp2
          rw [HV.out]
          exact bodyPost_ret (v := .tuple #[cmAgg ⟨cv, ct, (cl, cd), cz, ce⟩, .int .i64 0]) (by simp [results, Tryz.results92, go_sem, g0, cmAgg]) rfl ⟨rfl, HSE.out⟩
end
end Go.Proofs.YtapenolbbofjkaaGreatDoor
