/- MaildirOnce: its walk: told twice a message is there once, as it was first. Condition: what Go's variables hold. -/
import Derived.Test.YtcffickkipicbaaGreatDoorMdQ
import Derived.Test.YtcffickkipicbaaGreatDoorAw19
import Derived.Test.YtcffickkipicbaaGreatDoorArgs0
import Derived.Test.YtcffickkipicbaaGreatDoorSame
import Derived.Test.YtcffickkipicbaaGreatDoorChain
namespace Go.Proofs.YtcffickkipicbaaGreatDoor
open Go.RowKit Go.Sort Go.Maps

theorem pre_append (a b : Bs) : a.isPrefixOf (a ++ b) = true := by
  induction a with
  | nil => rfl
  | cons x r ih => simp [ih]
theorem fnames_one (nm x pre : Bs) : Fs.names [(nm, x)] pre = if pre.isPrefixOf nm then [nm] else [] := by
  unfold Fs.names
  simp only [List.map_cons, List.map_nil, List.filter_cons, List.filter_nil]
theorem fget1 (k x : Bs) : Fs.get [(k, x)] k = some x := by simp [Fs.get]
theorem fhas1 (k x : Bs) : Fs.has [(k, x)] k = true := by simp [Fs.has]
theorem drop_new (s : Bs) : List.drop 4 (newB ++ s) = s := by simp [newB]
theorem mdNames_one {box id rc : Nat} (h : mdOk box id rc) (x : Bs) : mdNames [(newB ++ nameB box id rc, x)] (box : Int) = [nameB box id rc] := by
  unfold mdNames
  rw [fnames_one, if_pos (pre_append _ _), List.map_cons, List.map_nil, drop_new, List.filter_cons]
  have : mdPick box (nameB box id rc) = true := by unfold mdPick; rw [mdParse_name h]; simp
  rw [this]
  rfl
theorem live_new : Live Dk.new := ⟨rfl, by decide⟩
/-- Behind i deliveries of one message (x0 the first bytes). -/
structure OnceM (D : Dk) (box : Int) (id : Nat) (rc : Int) (keys : List Bs) (i : Nat) : Prop where
  ok : D.Ok 5000
  pend : D.pend = []
  no : ¬ mdOk box id rc ∨ i = 0 → D = Dk.new
  yes : mdOk box id rc → 0 < i → ∃ x, keys[0]? = some x ∧ D.now = [(newB ++ nameB box.toNat id rc.toNat, x)]
theorem onceM_new (box : Int) (id : Nat) (rc : Int) (keys : List Bs) : OnceM Dk.new box id rc keys 0 := ⟨ok_new.mono (by decide), rfl, fun _ => rfl, fun _ h => absurd h (by decide)⟩
theorem OnceM.next {D : Dk} {box : Int} {id : Nat} {rc : Int} {keys : List Bs} {i : Nat} (h : OnceM D box id rc keys i) {x : Bs} (hx : keys[i]? = some x) (hl : x.length ≤ 1000) :
    ∃ D2, mdDeliver D box id rc x = (D2, (mdName box id rc).2) ∧ OnceM D2 box id rc keys (i + 1) := by
  by_cases hok : mdOk box id rc
  · obtain ⟨hk, he⟩ := mdName_ok hok
    rw [he]
    dsimp only
    cases i with
    | zero =>
      have h0 := h.no (.inr rfl)
      subst h0
      obtain ⟨T, e1, _⟩ := mdDeliver_live live_new (text := x) hok rfl rfl (by decide) (by
        show ¬ (1048576 : Int) < ((Fs.bytes [] : Nat) : Int) + x.length
        have : Fs.bytes [] = 0 := rfl
        rw [this]
        omega)
      have hO := (mdDeliver_ok ok_new box id rc x).mono (n := 5000) (by omega)
      rw [e1] at hO ⊢
      refine ⟨_, rfl, hO, rfl, fun hh => ?_, fun _ _ => ⟨x, hx, rfl⟩⟩
      rcases hh with hh | hh
      · exact absurd hok hh
      · omega
    | succ i =>
      obtain ⟨y, hy, hn⟩ := h.yes hok (by omega)
      refine ⟨D, ?_, h.ok, h.pend, fun hh => ?_, fun _ _ => ⟨y, hy, hn⟩⟩
      · unfold mdDeliver
        rw [he, if_neg (by simp)]
        dsimp only
        rw [hn, fhas1, if_pos rfl]
      · rcases hh with hh | hh
        · exact absurd hok hh
        · omega
  · have he : mdName box id rc = ([], 3) := by unfold mdName; rw [if_neg hok]
    rw [he]
    refine ⟨D, ?_, h.ok, h.pend, fun _ => h.no (.inl hok), fun hh => absurd hh hok⟩
    unfold mdDeliver
    rw [he, if_pos (by simp)]
set_option maxRecDepth 100000 in
set_option maxHeartbeats 4000000 in
theorem maildirOnce_walk (box id rc : Int) (v : Value) (keys : List Bs) (W : World) (E : Env W) (_hb : -9223372036854775808 ≤ box ∧ box ≤ 9223372036854775807) (hi : 0 ≤ id ∧ id ≤ 18446744073709551615) (_hr : -9223372036854775808 ≤ rc ∧ rc ≤ 9223372036854775807) (hv : TextsAt W v keys) :
    Calls Tryz.prog 5 #[.int .i64 box, .int .u64 id, .int .i64 rc, v] W fun e w2 => e = .returned (.bool true) ∧ Ext [] W w2 := by
  obtain ⟨id, rfl⟩ : ∃ k : Nat, id = k := ⟨id.toNat, by omega⟩
  have HS0 := Lib.hid (Sp.nil W [])
  have HE := Lib.hid E
  have HV := Lib.hid hv
  obtain ⟨a, cap, rfl, hlen, _⟩ := hv
  unfold maxLen at hlen
  have hlen' : (keys.length : Int) ≤ 9223372036854775807 := by omega
  clear hlen hi E
  go_enter Tryz.func5, Tryz.ntmps5
  go_wp2_with fail
  refine (awake19S HS0.out HE.out).mono ?_
  rintro e w1 ⟨rfl, S⟩
  have HS1 := Lib.hid S
  clear S
  go_wp2_with fail
  refine (newS HS1.out).mono ?_
  rintro e w2 ⟨d, rfl, S⟩
  have HS2 := Lib.hid S
  clear S HS1
  go_wp2_with fail
  refine (mdNameS box id rc HS2.out HE.out).mono ?_
  obtain ⟨⟨nm, ec⟩, hq⟩ : ∃ q, mdName box id rc = q := ⟨_, rfl⟩
  rw [hq]
  dsimp only
  rintro e w3 ⟨rfl, S3⟩
  have HS3 := Lib.hid S3
  have HQ := Lib.hid hq
  clear S3 HS2 hq
  go_wp2_with fail
  go_loopw [12] (fun z wr => ∃ (i : Nat) (D : Dk), z = .int .i64 i ∧ i ≤ keys.length ∧ i ≤ 20 ∧ OnceM D box id rc keys i ∧ Sp W [] wr (diskR d D :: [])) (fun z _ => 20 - (intOf z).toNat)
  case atStart => exact ⟨0, _, rfl, by omega, by omega, onceM_new _ _ _ _, HS3.out⟩
  case round =>
    clear HS3
    obtain ⟨i, D, rfl, hi1, hi2, hI, S4⟩ := hrel
    have HI := Lib.hid hI
    have HS4 := Lib.hid S4
    clear hI S4
    by_cases hlt : i < keys.length ∧ i < 20
    · obtain ⟨hlt1, hlt2⟩ := hlt
      have hlt1' : (i : Int) < keys.length := by omega
      have hlt2' : (i : Int) < 20 := by omega
      have HROW : Hid (∀ w2, Ext [] W w2 → RowsAt w2 a 1 (keys.map fun s => [.string ⟨s.toArray⟩])) := fun w2 hx2 => by
        obtain ⟨a', cap', he, _, hrow⟩ := HV.out.ext hx2
        cases he
        exact hrow
      obtain ⟨b, off, rfl⟩ := (HROW.out _ HS4.out.ext).addr (i := i) (by simpa using hlt1)
      obtain ⟨x, hx⟩ : ∃ x, x = keys[i] := ⟨_, rfl⟩
      have HCE : Hid (∀ w2, Ext [] W w2 → w2.cell? ⟨b, off + i, none⟩ = some (.string ⟨x.toArray⟩)) := fun w2 hx2 => by
        rw [hx]
        exact texts_cell (HROW.out w2 hx2) i hlt1
      have HKX : Hid (keys[i]? = some x) := by rw [hx]; exact List.getElem?_eq_getElem hlt1
      have c4 := HCE.out _ HS4.out.ext
      clear hx
      by_cases hbig : 1000 < x.length
      · have hb' : (1000 : Int) < x.length := by omega
        go_wp2
        go_ret
        exact ⟨rfl, HS4.out.ext⟩
      have hb' : (x.length : Int) ≤ 1000 := by omega
      have HXL : Hid (x.length ≤ 1000) := by unfold Hid; omega
      obtain ⟨D2, hd, hI2⟩ := HI.out.next HKX.out HXL.out
      rw [HQ.out] at hd
      have HD := Lib.hid hd
      have HI2 := Lib.hid hI2
      clear hbig hd hI2
      go_wp2_with fail
      refine (mdDeliverS box id rc x 5000 HS4.out HE.out HI.out.ok (by decide) (by have := HXL.out; omega)).mono ?_
      rw [HD.out]
      dsimp only
      rintro e w5 ⟨rfl, S5⟩
      have HS5 := Lib.hid S5
      clear S5 HS4 c4 HI HD
      have hn1 : ∀ n ∈ D2.now.names newB, n.length ≤ 1000 := fun n hn => by
        by_cases hok : mdOk box id rc
        · obtain ⟨y, _, hnow⟩ := HI2.out.yes hok (by omega)
          rw [hnow, fnames_one, if_pos (pre_append _ _)] at hn
          simp only [List.mem_singleton] at hn
          subst hn
          have := nameB_len (mdName_ok hok).1
          simp only [List.length_append, newB, List.length_cons, List.length_nil]
          omega
        · have := HI2.out.no (.inl hok)
          subst this
          cases hn
      have HN1 := Lib.hid hn1
      clear hn1
      go_wp2_with fail
      refine (mdTextsS box 5000 HS5.out HE.out HI2.out.ok (by decide) HN1.out).mono ?_
      by_cases hok : mdOk box id rc
      · obtain ⟨hk, he⟩ := mdName_ok hok
        rw [HQ.out] at he
        obtain ⟨hnm, rfl⟩ := Prod.mk.inj he
        obtain ⟨y, hy, hnow⟩ := HI2.out.yes hok (by omega)
        have hpend := HI2.out.pend
        have hbx : ((box.toNat : Nat) : Int) = box := by have := hok.1; omega
        have hmn : mdNames D2.now box = [nameB box.toNat id rc.toNat] := by rw [hnow, ← hbx]; exact mdNames_one hk y
        have htx : mdText D2.now (nameB box.toNat id rc.toNat) = y := by unfold mdText; rw [hnow, fget1]; rfl
        have hls : D2.now.names [] = [newB ++ nameB box.toNat id rc.toNat] := by rw [hnow, fnames_one]; rfl
        have hpl : D2.pend.length = 0 := by rw [hpend]; rfl
        rw [← hnm] at hmn htx hls
        clear hnm
        have HMN := Lib.hid hmn
        have HLS := Lib.hid hls
        have HPL := Lib.hid hpl
        have HY := Lib.hid hy
        rw [hmn]
        rintro e w6 ⟨v6, l6, rfl, hs6, S6⟩
        obtain rfl := sorted_one hs6
        rw [List.map_cons, List.map_nil, htx] at S6
        obtain ⟨g6, c6, rfl⟩ := S6.textOne
        have HS6 := Lib.hid S6
        have k6 := S6.textOneCell
        have HCL : Hid (∀ w2, Ext [] W w2 → w2.cell? ⟨b, off, none⟩ = some (.string ⟨y.toArray⟩)) := fun w2 hx2 => by
          have h0 : 0 < keys.length := by omega
          have := texts_cell (HROW.out w2 hx2) 0 h0
          rw [Nat.add_zero] at this
          have hy2 := HY.out
          rw [List.getElem?_eq_getElem h0] at hy2
          rw [Option.some.inj hy2] at this
          exact this
        have kl := HCL.out _ HS6.out.ext
        clear S6 HS5 hs6 hok hk he hnow hpend hbx hmn htx hls hpl hy
        go_wp2_with fail
        have hkp : 0 < keys.length := by omega
        have hkp' : (0 : Int) < keys.length := by omega
        refine wp_region_chain [0, 1, 2, 3, 4, 5, 6, 7, 8, 9, 10, 11, 12, 13, 14, 15, 16, 17, 18, 19, 20, 24, 21, 22, 23, 25, 26, 27, 28, 29, 30, 31] (fun c => c == 14 || c == 21 || c == 29) (S := fun wx => Sp W [] wx (textsR (.slice (some ⟨g6, 0, none⟩) 1 c6) [y] :: diskR d D2 :: []) ∧ wx.cell? ⟨g6, 0, none⟩ = some (.string ⟨y.toArray⟩) ∧ wx.cell? ⟨b, off, none⟩ = some (.string ⟨y.toArray⟩)) (by kernel_rfl) (by kernel_rfl) ⟨HS6.out.drew, HS6.out.drew.textOneCell, HCL.out _ HS6.out.drew.ext⟩ ?_
        repeat
          refine Exists.intro _ (And.intro rfl (Or.inl (Exists.intro ?_ (And.intro (fun wS hS K hK => ?_) (And.intro ?_ ?_)))))
          rotate_left 1
          · obtain ⟨hS1, hS2, hS3⟩ := hS
            first
              | (refine if_unwanted rfl ?_; simp only [Act.put, List.setIfInBounds_toArray, List.set_cons_zero, List.set_cons_succ]; exact hK.out)
              | (refine if_wanted rfl ?_; go_simp; exact hK.out)
          · rfl
        refine ChainH.callStep rfl rfl rfl (fun wS hS R hR => ?_)
        obtain ⟨hS1, hS2, hS3⟩ := hS
        go_simp
        go_at_call 19
        refine (listS [] hS1.pull1 (by have := HI2.out.ok.now; omega)).mono ?_
        rw [HLS.out]
        rintro e w7 ⟨v7, rfl, S7⟩
        obtain ⟨g7, c7, rfl⟩ := S7.textOne
        refine hR.out _ _ rfl (fun wx => Sp W [] wx (textsR (.slice (some ⟨g6, 0, none⟩) 1 c6) [y] :: diskR d D2 :: []) ∧ wx.cell? ⟨g6, 0, none⟩ = some (.string ⟨y.toArray⟩) ∧ wx.cell? ⟨b, off, none⟩ = some (.string ⟨y.toArray⟩)) ⟨(Sp.pick [_, _, _] [2, 1] (by decide) (S7)), ((Sp.pick [_, _, _] [2] (by decide) (S7))).textOneCell, HCL.out _ S7.ext⟩ (fun _ h => h) ?_
        clear hR hS1 hS2 hS3 S7
        repeat
          refine Exists.intro _ (And.intro rfl (Or.inl (Exists.intro ?_ (And.intro (fun wS hS K hK => ?_) (And.intro ?_ ?_)))))
          rotate_left 1
          · obtain ⟨hS1, hS2, hS3⟩ := hS
            first
              | (refine if_unwanted rfl ?_; simp only [Act.put, List.setIfInBounds_toArray, List.set_cons_zero, List.set_cons_succ]; exact hK.out)
              | (refine if_wanted rfl ?_; go_simp; exact hK.out)
          · rfl
        refine ChainH.callStep rfl rfl rfl (fun wS hS R hR => ?_)
        obtain ⟨hS1, hS2, hS3⟩ := hS
        go_simp
        go_at_call 17
        refine (mdListS box 5000 hS1.pull1 HE.out HI2.out.ok (by decide) HN1.out).mono ?_
        rw [HMN.out]
        rintro e w8 ⟨v8, l8, rfl, hs8, S8⟩
        obtain rfl := sorted_one hs8
        obtain ⟨g8, c8, rfl⟩ := S8.textOne
        refine hR.out _ _ rfl (fun wx => Sp W [] wx (textsR (.slice (some ⟨g6, 0, none⟩) 1 c6) [y] :: diskR d D2 :: []) ∧ wx.cell? ⟨g6, 0, none⟩ = some (.string ⟨y.toArray⟩) ∧ wx.cell? ⟨b, off, none⟩ = some (.string ⟨y.toArray⟩) ∧ wx.cell? ⟨g8, 0, none⟩ = some (.string ⟨nm.toArray⟩)) ⟨(Sp.pick [_, _, _] [2, 1] (by decide) (S8)), ((Sp.pick [_, _, _] [2] (by decide) (S8))).textOneCell, HCL.out _ S8.ext, S8.textOneCell⟩ (fun _ h => ⟨h.1, h.2.1, h.2.2.1⟩) ?_
        clear hR hS1 hS2 hS3 S8 hs8
        repeat
          refine Exists.intro _ (And.intro rfl (Or.inl (Exists.intro ?_ (And.intro (fun wS hS K hK => ?_) (And.intro ?_ ?_)))))
          rotate_left 1
          · obtain ⟨hS1, hS2, hS3, hS4⟩ := hS
            first
              | (refine if_unwanted rfl ?_; simp only [Act.put, List.setIfInBounds_toArray, List.set_cons_zero, List.set_cons_succ]; exact hK.out)
              | (refine if_wanted rfl ?_; go_simp; exact hK.out)
          · rfl
        refine ChainH.callStep rfl rfl rfl (fun wS hS R hR => ?_)
        obtain ⟨hS1, hS2, hS3, hS4⟩ := hS
        go_simp
        go_at_call 20
        refine (pendingS hS1.pull1).mono ?_
        rw [HPL.out]
        rintro e w9 ⟨rfl, rfl⟩
        refine hR.out _ _ rfl (fun wx => Sp W [] wx (textsR (.slice (some ⟨g6, 0, none⟩) 1 c6) [y] :: diskR d D2 :: []) ∧ wx.cell? ⟨g6, 0, none⟩ = some (.string ⟨y.toArray⟩) ∧ wx.cell? ⟨b, off, none⟩ = some (.string ⟨y.toArray⟩) ∧ wx.cell? ⟨g8, 0, none⟩ = some (.string ⟨nm.toArray⟩)) ⟨hS1, hS2, hS3, hS4⟩ (fun _ h => h) ?_
        clear hR hS1 hS2 hS3 hS4
        repeat
          refine Exists.intro _ (And.intro rfl (Or.inl (Exists.intro ?_ (And.intro (fun wS hS K hK => ?_) (And.intro ?_ ?_)))))
          rotate_left 1
          · obtain ⟨hS1, hS2, hS3, hS4⟩ := hS
            first
              | (refine if_unwanted rfl ?_; simp only [Act.put, List.setIfInBounds_toArray, List.set_cons_zero, List.set_cons_succ]; exact hK.out)
              | (refine if_wanted rfl ?_; go_simp; exact hK.out)
          · rfl
        rintro wE ⟨hE1, _⟩
        have HS8 := Lib.hid hE1.pull1
        clear k6 kl hE1
        go_wp2_with fail
        go_roundw
        case rel => exact ⟨i + 1, D2, by go_num, by omega, by omega, HI2.out, HS8.out.pull1.drop⟩
        case measure => simp [intOf]; omega
      · have he : mdName box id rc = ([], 3) := by unfold mdName; rw [if_neg hok]
        rw [HQ.out] at he
        have te : (ec != 0) = true := by rw [(Prod.mk.inj he).2]; rfl
        have hD := HI2.out.no (.inl hok)
        subst hD
        rw [show mdNames Dk.new.now box = [] from rfl]
        rintro e w6 ⟨v6, l6, rfl, hs6, S6⟩
        obtain rfl : l6 = [] := List.Perm.eq_nil hs6.1
        obtain ⟨a6, c6, rfl⟩ := S6.textSlice
        have HS6 := Lib.hid S6.drop
        clear S6 HS5 hs6 hok he
        go_wp2_with fail
        go_roundw
        case rel => exact ⟨i + 1, Dk.new, by go_num, by omega, by omega, HI2.out, HS6.out⟩
        case measure => simp [intOf]; omega
    · go_wp2
      all_goals (go_ret; exact ⟨rfl, HS4.out.ext⟩)
end Go.Proofs.YtcffickkipicbaaGreatDoor
