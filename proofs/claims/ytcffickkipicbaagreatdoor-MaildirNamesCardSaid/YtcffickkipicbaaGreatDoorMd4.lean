/- maildir: there, Has, Deliver. Conditions: the lengths fit. -/
import Derived.Test.YtcffickkipicbaaGreatDoorMd3
import Derived.Test.YtcffickkipicbaaGreatDoorRow
namespace Go.Proofs.YtcffickkipicbaaGreatDoor
open Go.RowKit Go.Sort Go.Maps

def newB : Bs := [110, 101, 119, 47]
def tmpB : Bs := [116, 109, 112, 47]
def mdHas (D : Dk) (box : Int) (id : Nat) (rc : Int) : Bool := decide ((mdName box id rc).2 = 0) && D.now.has (newB ++ (mdName box id rc).1)
def mdLay (D : Dk) (nm text : Bs) : Dk × Int :=
  if (D.write (tmpB ++ nm) text).2 ≠ 0 then D.write (tmpB ++ nm) text
  else if ((D.write (tmpB ++ nm) text).1.sync).2 ≠ 0 then (D.write (tmpB ++ nm) text).1.sync
  else if (((D.write (tmpB ++ nm) text).1.sync).1.rename (tmpB ++ nm) (newB ++ nm)).2 ≠ 0 then ((D.write (tmpB ++ nm) text).1.sync).1.rename (tmpB ++ nm) (newB ++ nm)
  else (((D.write (tmpB ++ nm) text).1.sync).1.rename (tmpB ++ nm) (newB ++ nm)).1.sync
def mdDeliver (D : Dk) (box : Int) (id : Nat) (rc : Int) (text : Bs) : Dk × Int :=
  if (mdName box id rc).2 ≠ 0 then (D, (mdName box id rc).2)
  else if D.now.has (newB ++ (mdName box id rc).1) then (D, 0)
  else mdLay D (mdName box id rc).1 text
def mdRemoves : List Bs → Dk → Dk × Int
  | [], D => (D, 0)
  | n :: r, D => if (D.remove n).2 ≠ 0 then D.remove n else mdRemoves r (D.remove n).1
def mdRecover (D : Dk) : Dk × Int :=
  if (mdRemoves (D.now.names tmpB) D).2 ≠ 0 then mdRemoves (D.now.names tmpB) D
  else if D.now.names tmpB = [] then ((mdRemoves (D.now.names tmpB) D).1, 0)
  else (mdRemoves (D.now.names tmpB) D).1.sync
theorem Dk.Ok.rename {D : Dk} {m : Nat} (h : D.Ok m) (n t : Bs) : (D.rename n t).1.Ok (m + 1 + n.length + t.length) := by
  unfold Dk.rename
  split
  · split
    · exact (h.done ⟨3, n, t, []⟩ (by simp)).mono (by simp)
    · exact h.mono (by omega)
  · exact h.mono (by omega)
theorem Dk.Ok.remove {D : Dk} {m : Nat} (h : D.Ok m) (n : Bs) : (D.remove n).1.Ok (m + 1 + n.length) := by
  unfold Dk.remove
  split
  · exact (h.done ⟨4, n, [], []⟩ (by simp)).mono (by simp)
  · exact h.mono (by omega)
theorem mdName_len (box : Int) (id : Nat) (rc : Int) : (mdName box id rc).1.length ≤ 18 := by
  unfold mdName
  split
  · rename_i h
    obtain ⟨h0, h1, h2, h3, h4, h5⟩ := h
    exact nameB_len ⟨by omega, by omega, h2, h3, by omega, by omega⟩
  · simp
theorem mdLay_ok {D : Dk} {m : Nat} (h : D.Ok m) (nm text : Bs) : (mdLay D nm text).1.Ok (m + 20 + 3 * nm.length + text.length) := by
  have h1 := h.write (tmpB ++ nm) text
  have h2 := h1.sync
  have h3 := h2.rename (tmpB ++ nm) (newB ++ nm)
  have h4 := h3.sync
  simp only [List.length_append] at h1 h2 h3 h4
  unfold mdLay
  split
  · exact h1.mono (by simp [tmpB]; omega)
  · split
    · exact h2.mono (by simp [tmpB]; omega)
    · split
      · exact h3.mono (by simp [tmpB, newB]; omega)
      · exact h4.mono (by simp [tmpB, newB]; omega)
theorem mdDeliver_ok {D : Dk} {m : Nat} (h : D.Ok m) (box : Int) (id : Nat) (rc : Int) (text : Bs) : (mdDeliver D box id rc text).1.Ok (m + 100 + text.length) := by
  have hl := mdName_len box id rc
  unfold mdDeliver
  split
  · exact h.mono (by omega)
  · split
    · exact h.mono (by omega)
    · exact (mdLay_ok h _ _).mono (by omega)

section
variable {w0 w : World} {L : List Res} {p : Nat} {D : Dk}
set_option maxRecDepth 100000 in
theorem thereS {F0 : List Nat} (n : Bs) (S : Sp w0 F0 w (diskR p D :: L)) (hn : n.length ≤ maxLen) : Calls Tryz.prog 48 #[.pointer (some ⟨p, 0, none⟩), .string ⟨n.toArray⟩] w fun e w2 => e = .returned (.bool (D.now.has n)) ∧ w = w2 := by
  have HR := Lib.hid (readS n S hn)
  generalize D.now.has n = bh at *
  clear S
  go_enter Tryz.func48, Tryz.ntmps48
  go_wp2_with fail
  refine HR.out.mono ?_
  rintro e w2 ⟨rfl, rfl⟩
  cases bh with
  | true =>
    go_wp2
    go_ret
    exact ⟨rfl, rfl⟩
  | false =>
    go_wp2
    go_ret
    exact ⟨rfl, rfl⟩
theorem mdNameS (box : Int) (id : Nat) (rc : Int) (S : Sp w0 [] w L) (E : Env w0) :
    Calls Tryz.prog 10 #[.int .i64 box, .int .u64 id, .int .i64 rc] w fun e w2 => e = .returned (.tuple #[.string ⟨(mdName box id rc).1.toArray⟩, .int .i64 (mdName box id rc).2]) ∧ Sp w0 [] w2 L :=
  (mdName_any box id rc w (E.sp S)).mono fun _ _ ⟨he, hg⟩ => ⟨he, S.ext0 hg.ext⟩
theorem mdParseS (s : Bs) (S : Sp w0 [] w L) (E : Env w0) (hs : s.length ≤ 1000000) :
    Calls Tryz.prog 12 #[.string ⟨s.toArray⟩] w fun e w2 => e = .returned (.tuple #[.int .i64 (mdParse s).1, .int .u64 (mdParse s).2.1, .int .i64 (mdParse s).2.2.1, .bool (mdParse s).2.2.2]) ∧ Sp w0 [] w2 L :=
  (mdParse_any s w (E.sp S) hs).mono fun _ _ ⟨he, hx, _⟩ => ⟨he, S.ext0 hx⟩
set_option maxRecDepth 100000 in
set_option maxHeartbeats 1000000 in
theorem mdDeliverS (box : Int) (id : Nat) (rc : Int) (text : Bs) (m : Nat) (S : Sp w0 [] w (diskR p D :: L)) (E : Env w0) (hD : D.Ok m) (hm : m ≤ 800000000) (ht : text.length ≤ 1000000) :
    Calls Tryz.prog 16 #[.pointer (some ⟨p, 0, none⟩), .int .i64 box, .int .u64 id, .int .i64 rc, .string ⟨text.toArray⟩] w fun e w2 => e = .returned (.int .i64 (mdDeliver D box id rc text).2) ∧ Sp w0 [] w2 (diskR p (mdDeliver D box id rc text).1 :: L) := by
  have HN := Lib.hid (mdNameS box id rc S E)
  have HDL : Hid (mdDeliver D box id rc text = if (mdName box id rc).2 ≠ 0 then (D, (mdName box id rc).2) else if D.now.has (newB ++ (mdName box id rc).1) then (D, 0) else mdLay D (mdName box id rc).1 text) := rfl
  have hl := mdName_len box id rc
  generalize mdName box id rc = q at *
  obtain ⟨nm, ec⟩ := q
  dsimp only at *
  have hb1 := hD.write (tmpB ++ nm) text
  have HA := Lib.hid (hD.small (by omega))
  have HB := Lib.hid (hb1.small (by simp [tmpB]; omega))
  have HC := Lib.hid (hb1.sync.small (by simp [tmpB]; omega))
  have HE := Lib.hid ((hb1.sync.rename (tmpB ++ nm) (newB ++ nm)).small (by simp [tmpB, newB]; omega))
  have HLY : Hid (mdLay D nm text = _) := Lib.hid (mdLay.eq_1 D nm text)
  have a1 := add_str newB nm (by simp [newB, maxLen]; omega)
  have a2 := add_str tmpB nm (by simp [tmpB, maxLen]; omega)
  have HL1 : Hid ((newB ++ nm).length ≤ 1000) := by simp [newB, Hid]; omega
  have HL2 : Hid ((tmpB ++ nm).length ≤ 1000) := by simp [tmpB, Hid]; omega
  have HT := Lib.hid ht
  unfold newB at a1
  unfold tmpB at a2
  generalize hx : newB ++ nm = xn at *
  generalize hy : tmpB ++ nm = xt at *
  have ex : [110, 101, 119, 47] ++ nm = xn := hx
  have ey : [116, 109, 112, 47] ++ nm = xt := hy
  rw [ex] at a1
  rw [ey] at a2
  clear S E hD hm ht hl hb1 hx hy ex ey
  go_enter Tryz.func16, Tryz.ntmps16
  go_wp2_with fail
  refine HN.out.mono ?_
  rintro e w1 ⟨rfl, S1⟩
  have HS1 := Lib.hid S1
  clear S1 HN
  by_cases he : ec = 0
  · subst he
    rw [if_neg (by simp)] at HDL
    go_wp2_with fail
    refine (thereS xn HS1.out (by have := HL1.out; unfold maxLen; omega)).mono ?_
    rintro e wq ⟨rfl, rfl⟩
    cases hh : D.now.has xn with
    | true =>
      have HV : Hid (mdDeliver D box id rc text = (D, 0)) := by rw [HDL.out, hh]; exact Eq.refl _
      clear hh
      go_wp2
      go_ret
      rw [HV.out]
      exact ⟨rfl, HS1.out⟩
    | false =>
      have HV : Hid (mdDeliver D box id rc text = mdLay D nm text) := by rw [HDL.out, hh]; exact Eq.refl _
      clear hh HDL
      go_wp2_with fail
      refine (writeS xt text HS1.out HA.out (by have := HL2.out; omega) (by have := HT.out; omega)).mono ?_
      generalize D.write xt text = R at *
      obtain ⟨D1, e1⟩ := R
      dsimp only at *
      rintro e w2 ⟨rfl, S2⟩
      have HS2 := Lib.hid S2
      clear S2 HS1
      by_cases h1 : e1 = 0
      · subst h1
        rw [if_neg (by simp)] at HLY
        go_wp2_with fail
        refine (syncS HS2.out HB.out).mono ?_
        generalize D1.sync = R at *
        obtain ⟨D2, e2⟩ := R
        dsimp only at *
        rintro e w3 ⟨rfl, S3⟩
        have HS3 := Lib.hid S3
        clear S3 HS2
        by_cases h2 : e2 = 0
        · subst h2
          rw [if_neg (by simp)] at HLY
          go_wp2_with fail
          refine (renameS xt xn HS3.out HC.out (by have := HL2.out; omega) (by have := HL1.out; omega)).mono ?_
          generalize D2.rename xt xn = R at *
          obtain ⟨D3, e3⟩ := R
          dsimp only at *
          rintro e w4 ⟨rfl, S4⟩
          have HS4 := Lib.hid S4
          clear S4 HS3
          by_cases h3 : e3 = 0
          · subst h3
            rw [if_neg (by simp)] at HLY
            go_wp2_with fail
            refine (syncS HS4.out HE.out).mono ?_
            generalize D3.sync = R at *
            obtain ⟨D4, e4⟩ := R
            dsimp only at *
            rintro e w5 ⟨rfl, S5⟩
            have HS5 := Lib.hid S5
            clear S5 HS4
            go_wp2
            go_ret
            rw [HV.out, HLY.out]
            exact ⟨rfl, HS5.out⟩
          · have t3 : (e3 != 0) = true := by simpa using h3
            rw [if_pos h3] at HLY
            clear h3
            go_wp2
            go_ret
            rw [HV.out, HLY.out]
            exact ⟨rfl, HS4.out⟩
        · have t2 : (e2 != 0) = true := by simpa using h2
          rw [if_pos h2] at HLY
          clear h2
          go_wp2
          go_ret
          rw [HV.out, HLY.out]
          exact ⟨rfl, HS3.out⟩
      · have t1 : (e1 != 0) = true := by simpa using h1
        rw [if_pos h1] at HLY
        clear h1
        go_wp2
        go_ret
        rw [HV.out, HLY.out]
        exact ⟨rfl, HS2.out⟩
  · have t0 : (ec != 0) = true := by simpa using he
    have HV : Hid (mdDeliver D box id rc text = (D, ec)) := by rw [HDL.out, if_pos he]; exact Eq.refl _
    clear he
    go_wp2
    go_ret
    rw [HV.out]
    exact ⟨rfl, HS1.out⟩
end
end Go.Proofs.YtcffickkipicbaaGreatDoor
