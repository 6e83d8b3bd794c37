/- maildir: Has, Recover; names of files. Conditions: the lengths fit. -/
import Derived.Test.YtcffickkipicbaaGreatDoorMd4
namespace Go.Proofs.YtcffickkipicbaaGreatDoor
open Go.RowKit Go.Sort Go.Maps

theorem mdRemoves_ok : ∀ (l : List Bs) (D : Dk) (m : Nat), D.Ok m → (∀ n ∈ l, n.length ≤ 1000) → (mdRemoves l D).1.Ok (m + 1001 * l.length)
  | [], D, m, h, _ => h
  | n :: r, D, m, h, hn => by
    have h1 := h.remove n
    have hl := hn n (by simp)
    unfold mdRemoves
    split
    · exact h1.mono (by simp only [List.length_cons]; omega)
    · exact (mdRemoves_ok r _ _ h1 (fun x hx => hn x (by simp [hx]))).mono (by simp only [List.length_cons]; omega)
theorem mdRecover_ok {D : Dk} {m : Nat} (h : D.Ok m) (hl : (D.now.names tmpB).length ≤ 1000) (hn : ∀ n ∈ D.now.names tmpB, n.length ≤ 1000) : (mdRecover D).1.Ok (m + 1001001) := by
  have h1 := mdRemoves_ok _ D m h hn
  unfold mdRecover
  split
  · exact h1.mono (by omega)
  · split
    · exact h1.mono (by omega)
    · exact h1.sync.mono (by omega)
section
variable {w0 w : World} {F0 : List Nat} {L : List Res} {p : Nat} {D : Dk} {v : Value} {l : List Bs}
theorem listS (pre : Bs) (S : Sp w0 F0 w (diskR p D :: L)) (hl : D.now.length < 1000000000000) :
    Calls Tryz.prog 19 #[.pointer (some ⟨p, 0, none⟩), .string ⟨pre.toArray⟩] w fun e w2 => ∃ v, e = .returned v ∧ Sp w0 F0 w2 (textsR v (D.now.names pre) :: diskR p D :: L) := by
  obtain ⟨F, h, hk⟩ := S.disk
  refine (list_any p F D pre w h hl).mono fun e w2 ⟨v, he, h1, hx, hn⟩ => ⟨v, he, ?_⟩
  exact S.gain (G := v.ownBlock.toList) hx ⟨rfl, h1⟩ (fun x hx2 => hn x (by simpa using hx2))
theorem Sp.textSlice (S : Sp w0 F0 w (textsR v l :: L)) : ∃ a cap, v = .slice a l.length cap := by
  rcases S.rowForm with ⟨rfl, h0⟩ | ⟨g, cap, rfl⟩
  · exact ⟨none, 0, by rw [h0]⟩
  · exact ⟨_, _, rfl⟩
theorem Sp.textCell {a : Option Addr} {n cap : Nat} (S : Sp w0 F0 w (textsR (.slice a n cap) l :: L)) {i : Nat} {x : Bs} (hx : l[i]? = some x) : ∃ g, a = some ⟨g, 0, none⟩ ∧ w.cell? ⟨g, i, none⟩ = some (.string ⟨x.toArray⟩) := by
  rcases S.rowForm with ⟨h, h0⟩ | ⟨g, c, h⟩
  · rw [List.eq_nil_of_length_eq_zero h0] at hx
    cases hx
  · simp only [Value.slice.injEq] at h
    obtain ⟨rfl, rfl, rfl⟩ := h
    have h2 := S.row.cells (g := g) rfl i (.string ⟨x.toArray⟩) (by rw [List.getElem?_map, hx]; rfl)
    have hadd : (⟨g, 0, none⟩ : Addr).add i = ⟨g, i, none⟩ := by unfold Addr.add; split <;> simp_all
    rw [hadd] at h2
    exact ⟨g, rfl, h2⟩
set_option maxRecDepth 100000 in
set_option maxHeartbeats 1000000 in
theorem mdRecoverS (m : Nat) (S : Sp w0 F0 w (diskR p D :: L)) (hD : D.Ok m) (hm : m ≤ 700000000) (hl : (D.now.names tmpB).length ≤ 1000) (hn : ∀ n ∈ D.now.names tmpB, n.length ≤ 1000) :
    Calls Tryz.prog 23 #[.pointer (some ⟨p, 0, none⟩)] w fun e w2 => e = .returned (.int .i64 (mdRecover D).2) ∧ Sp w0 F0 w2 (diskR p (mdRecover D).1 :: L) := by
  have HLS := Lib.hid (listS tmpB S (by have := hD.now; omega))
  have HRC : Hid (mdRecover D = _) := Lib.hid (mdRecover.eq_1 D)
  have HN := Lib.hid hn
  have HD := Lib.hid hD
  have hl' : ((D.now.names tmpB).length : Int) ≤ 1000 := by omega
  generalize D.now.names tmpB = l at *
  clear S hD hn
  go_enter Tryz.func23, Tryz.ntmps23
  go_wp2_with fail
  refine HLS.out.mono ?_
  rintro e w1 ⟨v, rfl, S1⟩
  obtain ⟨a, cap, rfl⟩ := S1.textSlice
  have HS1 := Lib.hid S1
  clear S1 HLS
  go_wp2_with fail
  go_loopw [13] (fun z wr => ∃ (i : Nat) (D2 : Dk), z = .int .i64 i ∧ i ≤ l.length ∧ D2.Ok (m + 1001 * i) ∧ mdRemoves l D = mdRemoves (l.drop i) D2 ∧ Sp w0 F0 wr (textsR (.slice a l.length cap) l :: diskR p D2 :: L)) (fun z _ => l.length - (intOf z).toNat)
  case atStart => exact ⟨0, D, rfl, by omega, HD.out.mono (by omega), rfl, HS1.out⟩
  case round =>
    obtain ⟨i, D2, rfl, hi, hok, hrm, S2⟩ := hrel
    have HOK := Lib.hid hok
    have HRM := Lib.hid hrm
    have HS2 := Lib.hid S2
    by_cases hlt : i < l.length
    · have hlt' : (i : Int) < l.length := by omega
      have hi0 : (0 : Int) ≤ i := by omega
      obtain ⟨x, hx⟩ : ∃ x, l[i]? = some x := ⟨_, List.getElem?_eq_getElem hlt⟩
      obtain ⟨g, rfl, c⟩ := S2.textCell hx
      have HXL : Hid (x.length ≤ 1000) := HN.out x (List.mem_of_getElem? hx)
      have hd : l.drop i = x :: l.drop (i + 1) := by
        rw [List.drop_eq_getElem_cons hlt]
        congr 1
        rw [List.getElem?_eq_getElem hlt] at hx
        exact Option.some.inj hx
      have HR1 : Hid (mdRemoves l D = if (D2.remove x).2 ≠ 0 then D2.remove x else mdRemoves (l.drop (i + 1)) (D2.remove x).1) := by rw [HRM.out, hd]; exact Eq.refl _
      have HOK2 : Hid ((D2.remove x).1.Ok (m + 1001 * (i + 1))) := (hok.remove x).mono (by have := HXL.out; omega)
      clear S2 hok hrm hx hd HRM HS1
      go_wp2_with fail
      refine (removeS x HS2.out.pull1 (HOK.out.small (by omega)) (by have := HXL.out; omega)).mono ?_
      generalize D2.remove x = R at *
      obtain ⟨D3, e3⟩ := R
      dsimp only at *
      rintro e w3 ⟨rfl, S3⟩
      have HS3 := Lib.hid S3.pull1
      clear S3 HS2 c
      by_cases he : e3 = 0
      · subst he
        rw [if_neg (by simp)] at HR1
        go_wp2_with fail
        go_roundw
        case rel => exact ⟨i + 1, D3, by go_num, by omega, HOK2.out, HR1.out, HS3.out⟩
        case measure => simp [intOf]; omega
      · have t1 : (e3 != 0) = true := by simpa using he
        have HV : Hid (mdRecover D = (D3, e3)) := by rw [HRC.out, HR1.out, if_pos he]; simp [he, Hid]
        clear he
        go_wp2
        go_ret
        rw [HV.out]
        exact ⟨rfl, HS3.out.drop⟩
    · obtain rfl : i = l.length := by omega
      rw [List.drop_length] at HRM
      have HR1 : Hid (mdRemoves l D = (D2, 0)) := HRM.out
      clear S2 hok hrm HRM HS1
      by_cases hz : l = []
      · subst hz
        have HV : Hid (mdRecover D = (D2, 0)) := by rw [HRC.out, HR1.out]; simp [Hid]
        go_wp2
        go_ret
        rw [HV.out]
        exact ⟨rfl, HS2.out.drop⟩
      · have hpos : (0 : Int) < l.length := by have := List.length_pos_iff.2 hz; omega
        have hne : ((l.length : Int) == 0) = false := by simp; omega
        have HV : Hid (mdRecover D = D2.sync) := by rw [HRC.out, HR1.out]; simp [hz, Hid]
        clear hz
        go_wp2_with fail
        refine (syncS HS2.out.drop (HOK.out.small (by omega))).mono ?_
        generalize D2.sync = R at *
        obtain ⟨D3, e3⟩ := R
        dsimp only at *
        rintro e w3 ⟨rfl, S3⟩
        have HS3 := Lib.hid S3
        clear S3
        go_wp2
        go_ret
        rw [HV.out]
        exact ⟨rfl, HS3.out⟩
end
end Go.Proofs.YtcffickkipicbaaGreatDoor
