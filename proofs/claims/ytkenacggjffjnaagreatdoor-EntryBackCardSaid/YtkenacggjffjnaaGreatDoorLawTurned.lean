/- law 15: an ideal box' file that was changed isn't opened. Conditions: what Go's variables hold; the arguments are some. -/
import Derived.Test.YtkenacggjffjnaaGreatDoorLw15
import Derived.Test.YtkenacggjffjnaaGreatDoorReg
import Derived.Test.YtkenacggjffjnaaGreatDoorChainG
set_option linter.unusedSimpArgs false
set_option linter.unusedVariables false
set_option linter.unnecessarySimpa false
namespace Go.Proofs.YtkenacggjffjnaaGreatDoor
open Go.RowKit Go.Maps

/-- The cells of a key. -/
def k32C (k : Bs) : Array Value := (k.map fun c => Value.int .u8 c.toNat).toArray
theorem k32C_at (k : Bs) (j : Nat) : (k32C k)[j]? = k[j]?.map fun c => Value.int .u8 c.toNat := by simp [k32C]
theorem k32Conv (k : Bs) (hk : k.length = 32) (W : World) (q : Nat) (hc : ∀ o, W.cell? ⟨q, o, none⟩ = (k32C k)[o]?) : (convert 44 9 (.slice (some ⟨q, 0, none⟩) 32 32)).run Tryz.prog W = .ok (.string ⟨k.toArray⟩) W := by
  have := run_convert_bytes_back (P := Tryz.prog) W 44 9 5 ⟨q, 0, none⟩ 32 k Tryz.underlying44 Tryz.underlying5 Tryz.underlying9 (fun j hj => by
    have h1 := hc j
    have add : (⟨q, 0, none⟩ : Addr).add j = ⟨q, 0 + j, none⟩ := by unfold Addr.add; split <;> simp_all
    rw [add, Nat.zero_add, h1, k32C_at, List.getElem?_eq_getElem hj]
    rfl)
  rw [hk] at this
  exact this
theorem k32Load (k : Bs) (hk : k.length = 32) (W : World) (q : Nat) (hc : ∀ o, W.cell? ⟨q, o, none⟩ = (k32C k)[o]?) : Sem.run Tryz.prog (loadCellsFrom ⟨q, 0, none⟩ 0 32 #[]) W = .ok (k32C k) W := by
  refine run_loadCellsFrom_list Tryz.prog _ _ (k.map fun c => Value.int .u8 c.toNat) 32 (by simpa using hk) (fun i v hi => ?_)
  rw [Addr.add_lit, Nat.zero_add, hc i]
  unfold k32C
  simpa using hi
theorem k32_inj {a b : Bs} (h : k32C a = k32C b) : a = b := by
  unfold k32C at h
  have h2 : a.map (fun c => Value.int .u8 c.toNat) = b.map fun c => Value.int .u8 c.toNat := by simpa using congrArg Array.toList h
  refine (List.map_inj_right (fun x y hxy => ?_)).1 h2
  simp only [Value.int.injEq, true_and] at hxy
  exact UInt8.toNat_inj.1 (by omega)
theorem k32Items (k o : Bs) (W : World) : ∀ is : List Nat, (∀ i ∈ is, i < k.length ∧ i < o.length) → (Op.eqItems 9999 5 1 (k32C k) (k32C o) is).run Tryz.prog W = .ok (decide (∀ i ∈ is, k[i]? = o[i]?)) W
  | [], _ => by simp [Op.eqItems]
  | i :: is, h => by
    obtain ⟨h1, h2⟩ := h i (by simp)
    have ih := k32Items k o W is (fun j hj => h j (by simp [hj]))
    have p1 : (part 5 (k32C k) (i * 1)).run Tryz.prog W = .ok (.int .u8 k[i].toNat) W := run_part_plain W (by kernel_rfl) (by rw [Nat.mul_one, k32C_at, List.getElem?_eq_getElem h1]; rfl)
    have p2 : (part 5 (k32C o) (i * 1)).run Tryz.prog W = .ok (.int .u8 o[i].toNat) W := run_part_plain W (by kernel_rfl) (by rw [Nat.mul_one, k32C_at, List.getElem?_eq_getElem h2]; rfl)
    have p3 : (Op.equalIn 9999 5 (.int .u8 k[i].toNat) (.int .u8 o[i].toNat)).run Tryz.prog W = .ok ((k[i].toNat : Int) == o[i].toNat) W := run_equalIn_int W 9998 5 .u8 .u8 _ _ Tryz.underlying5
    simp only [Op.eqItems, Sem.run_bind, p1, p2, p3, Result.andThen_ok]
    by_cases he : k[i] = o[i]
    · have h3 : ((k[i].toNat : Int) == o[i].toNat) = true := by simp [he]
      rw [h3]
      have hd : decide (∀ j ∈ i :: is, k[j]? = o[j]?) = decide (∀ j ∈ is, k[j]? = o[j]?) := by
        rw [decide_eq_decide]
        simp [List.getElem?_eq_getElem h1, List.getElem?_eq_getElem h2, he]
      rw [hd]
      simp only [Bool.not_true, Bool.false_eq_true, if_false, ih]
    · have h3 : ((k[i].toNat : Int) == o[i].toNat) = false := by
        simp only [beq_eq_false_iff_ne, ne_eq]
        intro h4
        exact he (UInt8.toNat_inj.1 (by omega))
      rw [h3]
      have hd : decide (∀ j ∈ i :: is, k[j]? = o[j]?) = false := by
        rw [decide_eq_false_iff_not]
        intro h4
        have h5 := h4 i (by simp)
        rw [List.getElem?_eq_getElem h1, List.getElem?_eq_getElem h2] at h5
        exact he (Option.some.inj h5)
      rw [hd]
      simp only [Bool.not_false, if_true, Sem.run_pure]
theorem k32Info : ∃ i, Tryz.prog.info? 5 = some i := Option.isSome_iff_exists.1 (by kernel_rfl)
theorem k32Eq (k o : Bs) (hk : k.length = 32) (ho : o.length = 32) (W : World) : (Op.equalIn 10000 41 (.agg (k32C k)) (.agg (k32C o))).run Tryz.prog W = .ok (decide (k = o)) W := by
  obtain ⟨i, hi⟩ := k32Info
  rw [run_equalIn_array W 9999 (k32C k) (k32C o) Tryz.underlying41 hi, show Tryz.prog.cellsOf 5 = 1 by kernel_rfl, k32Items k o W _ (fun j hj => by have := List.mem_range.1 hj; omega)]
  suffices hd : decide (∀ i ∈ List.range 32, k[i]? = o[i]?) = decide (k = o) by rw [hd]
  rw [decide_eq_decide]
  constructor
  · intro h
    apply List.ext_getElem?
    intro j
    by_cases hj : j < 32
    · exact h j (List.mem_range.2 hj)
    · rw [List.getElem?_eq_none (by omega), List.getElem?_eq_none (by omega)]
  · rintro rfl j _
    rfl
/-- A file that was made by an ideal box with draws enough. -/
theorem seal_turned {U : Bs → Bs → Bs} {key : Bs} {e : En} {body D : Bs} (he : enMay e = true) (hb : body.length ≤ 16000) (hk : key.length = 32) (hD : 16400 ≤ D.length) :
    enSeal U [] D key e body = ((textB (headB e) ++ D.take ((fillB body).length + 16), 0), D.drop ((fillB body).length + 16), Mp.put [] (U key (nonceE e.cnt)) (headB e, fillB body, D.take ((fillB body).length + 16))) := by
  have h1 : bxSeal U [] D key (nonceE e.cnt) (headB e) (fillB body) = ((D.take ((fillB body).length + 16), 0), D.drop ((fillB body).length + 16), Mp.put [] (U key (nonceE e.cnt)) (headB e, fillB body, D.take ((fillB body).length + 16))) := by
    have hl := fillB_length hb
    have hbl := bucket_le (textB body).length
    have hh := headB_len (enMay_parts he)
    unfold bxSeal
    rw [if_pos ⟨hk, nonceE_length _, by omega, by omega⟩]
    have hg : Mp.get ([] : Mp Sealed3) (U key (nonceE e.cnt)) = none := rfl
    rw [hg]
    dsimp only
    rw [if_neg (by omega)]
  unfold enSeal
  rw [if_pos he, if_pos hb, h1]
  rfl
theorem turned_ok {key : Bs} {e : En} {body D : Bs} (he : enMay e = true) (hb : body.length ≤ 16000) : TabOk (Mp.put [] (uB key (nonceE e.cnt)) (headB e, fillB body, D.take ((fillB body).length + 16))) := by
  have hl := fillB_length hb
  have hbl := bucket_le (textB body).length
  refine ⟨Nat.le_trans (Mp.length_put_le _ _ _) (by decide), fun k x h => ?_⟩
  rw [Mp.get_put] at h
  split at h
  · cases h
    exact ⟨by dsimp only; omega, by dsimp only; rw [List.length_take]; omega⟩
  · simp [Mp.get] at h
theorem uB_keys {other key : Bs} (hk : key.length = 32) (ho : other.length = 32) : ∀ a b : Nat, a < 18446744073709551616 → b < 18446744073709551616 → uB other (nonceE a) = uB key (nonceE b) → other = key ∧ a = b := by
  intro a b ha hb h
  have n1 := nonceE_length a
  have n2 := nonceE_length b
  obtain ⟨h1, h2⟩ := uB_inj (by unfold maxLen; omega) (by unfold maxLen; omega) (by unfold maxLen; omega) (by unfold maxLen; omega) h
  exact ⟨h1, nonceE_inj ha hb h2⟩
theorem file_len {e : En} {body D : Bs} (he : enMay e = true) (hb : body.length ≤ 16000) : (textB (headB e) ++ D.take ((fillB body).length + 16)).length ≤ 1000000 := by
  have hl := fillB_length hb
  have hbl := bucket_le (textB body).length
  have hh := headB_len (enMay_parts he)
  have h3 := textB_length_le (headB e)
  rw [List.length_append, List.length_take]
  omega
section
variable {w : World}
set_option maxRecDepth 100000 in
set_option maxHeartbeats 8000000 in
theorem entryTurned_walk (e : En) (v : Value) (body key other s : Bs) (w : World) (E : Env w) (hw : e.Wf) (T : TosAt w v e.rcs) (_hbd : body.length ≤ maxLen) (hk : key.length = 32) (ho : other.length = 32) (_hs : s.length ≤ maxLen) : Calls Tryz.prog 6 #[enAgg e v, .string ⟨body.toArray⟩, .agg (k32C key), .agg (k32C other), .string ⟨s.toArray⟩] w fun e w2 => e = .returned (.bool true) ∧ Ext [] w w2 := by
  have HE := Lib.hid E
  have S0 := (((Sp.nil w []).box (enCells e v) 27).box (k32C key) 41).box (k32C other) 41
  have HT := Lib.hid T
  have HL := Lib.hid (fun (w' : World) (hx : Ext [] w w') => large15_any e v w' hw (T.ext hx))
  have HFT := Lib.hid (@largeE_fit e hw)
  have HA := Lib.hid (awake15S S0 E)
  have HS0 := Lib.hid S0
  obtain ⟨va, vc, rfl⟩ := T.form
  have HK := Lib.hid hk
  have HO := Lib.hid ho
  have HCV := Lib.hid (fun W q => k32Conv key hk W q)
  have HCO := Lib.hid (fun W q => k32Conv other ho W q)
  have HLK := Lib.hid (fun W q => k32Load key hk W q)
  have HLO := Lib.hid (fun W q => k32Load other ho W q)
  have HKI := Lib.hid (@k32_inj key other)
  have HEQ := Lib.hid (fun W => k32Eq key other hk ho W)
  have HKS : Hid ((k32C key).size = 32) := by unfold Hid k32C; simpa using hk
  have HOS : Hid ((k32C other).size = 32) := by unfold Hid k32C; simpa using ho
  have HKE : Hid (key = other → k32C key = k32C other) := fun h => by rw [h]
  clear E T hw hk ho S0
  unfold enAgg
  unfold enCells at HS0 HA
  generalize k32C key = kc at *
  generalize k32C other = oc at *
  simp only [World.size_alloc] at HS0 HA
  go_enter Tryz.func6, Tryz.ntmps6
  go_upto_region 1 with (fail)
  generalize ((w.alloc _).alloc _).alloc _ = w1 at *
  generalize w.heap.size + 1 + 1 = q8 at *
  generalize w.heap.size + 1 = q7 at *
  generalize w.heap.size = q5 at *
  go_wp2_with fail
  refine HA.out.mono ?_
  rintro e1 w2 ⟨rfl, S⟩
  have HS2 := Lib.hid ((Sp.pick [_, _, _] [2, 0, 1] (by decide) (S)))
  have c2 := HS2.out.cell
  clear S HA HS0
  have HLx := Lib.hid (HL.out w2 HS2.out.ext)
  unfold enAgg at HLx
  go_wp2_with fail
  refine HLx.out.mono ?_
  rintro e1 w3 ⟨rfl, hx⟩
  have HS3 := Lib.hid (HS2.out.ext0 hx)
  clear hx HS2 c2 HLx HL
  cases hlg : largeE e with
  | true =>
    clear HFT hlg
    go_wp2
    go_ret
    exact ⟨rfl, HS3.out.ext⟩
  | false =>
    have HF := Lib.hid (HFT.out hlg)
    clear HFT hlg
    by_cases h2 : 1000 < body.length
    · have h2' : (1000 : Int) < body.length := by omega
      clear h2
      go_wp2
      go_ret
      exact ⟨rfl, HS3.out.ext⟩
    by_cases h3 : 8192 < s.length
    · have h2' : (body.length : Int) ≤ 1000 := by omega
      have h3' : (8192 : Int) < s.length := by omega
      clear h2 h3
      go_wp2
      go_ret
      exact ⟨rfl, HS3.out.ext⟩
    have h2' : (body.length : Int) ≤ 1000 := by omega
    have h3' : (s.length : Int) ≤ 8192 := by omega
    have HBL : Hid (body.length ≤ 16000) := by unfold Hid; omega
    have HSL : Hid (s.length ≤ 1000000) := by unfold Hid; omega
    clear h2 h3
    have hm2 : ∀ W : World, (Instr.makeSlice 44 (.int .i64 20000) (.int .i64 20000)).run Tryz.prog W = .ok (.slice (some ⟨W.heap.size, 0, none⟩) 20000 20000) (W.alloc (.cells (rowB (zeros 20000)) 5)) := fun W => makeZ 20000 (by decide) W
    have hc2 : ∀ W : World, (convert 44 9 (.slice (some ⟨W.heap.size, 0, none⟩) 20000 20000)).run Tryz.prog (W.alloc (.cells (rowB (zeros 20000)) 5)) = .ok (.string ⟨(zeros 20000).toArray⟩) (W.alloc (.cells (rowB (zeros 20000)) 5)) := fun W => textZ 20000 _ _ (fun j hj => cellZ 20000 W j hj)
    have HZL : Hid ((zeros 20000).length = 20000) := zeros_length 20000
    have HID := Lib.hid (fun (D : Bs) (W : World) (L' : List Res) (S' : Sp w [] W L') => idealS D S')
    have HSN := Lib.hid (HS3.out.new (.cells (rowB (zeros 20000)) 5))
    generalize zeros 20000 = D at *
    generalize rowB D = rd at *
    clear HS3
    go_wp2_with fail
    refine (HID.out D _ _ HSN.out).mono ?_
    rintro r w4 ⟨b, rfl, S⟩
    have HS4 := Lib.hid S
    clear S hm2 hc2 HSN
    have HQ1 : Hid (enMay e = false → enSeal uB [] D key e body = (([], 2), D, [])) := fun h => by unfold enSeal; rw [if_neg (by simp [h])]
    have HQ2 : Hid (enMay e = true → enSeal uB [] D key e body = ((textB (headB e) ++ D.take ((fillB body).length + 16), 0), D.drop ((fillB body).length + 16), Mp.put [] (uB key (nonceE e.cnt)) (headB e, fillB body, D.take ((fillB body).length + 16)))) := fun h => seal_turned h HBL.out HK.out (by have := HZL.out; omega)
    obtain ⟨q, hq⟩ : ∃ q, q = enSeal uB [] D key e body := ⟨_, rfl⟩
    rw [← hq] at HQ1 HQ2
    obtain ⟨⟨fl, f⟩, D2, T2⟩ := q
    have HTS := Lib.hid (fun (W : World) (L' : List Res) (S' : Sp w [] W (idealR b D [] :: L')) => enSealI e key body HE.out HF.out (by have := HK.out; omega) TabOk.nil (by have := HZL.out; omega) (HT.out.ext S'.ext) S')
    rw [← hq] at HTS
    clear hq
    unfold enAgg at HTS
    dsimp only at HTS
    go_upto_region 6 with (fail)
    refine wp_region_chainG [0, 1, 2, 3, 4, 5, 6, 7, 8, 9, 10] (fun c => c == 5) (fun c => false) (T := fun wx => (∀ o, wx.cell? ⟨q5, o, none⟩ = (#[.int .u64 e.id, .string ⟨e.dom.toArray⟩, .int .u64 e.ep, .int .u64 e.cnt, .string ⟨e.frm.1.toArray⟩, .string ⟨e.frm.2.toArray⟩, .slice va e.rcs.length vc, .int .u64 e.born, .int .u64 e.nxt, .int .i64 e.tries])[o]?) ∧ (convert 44 9 (.slice (some ⟨q7, 0, none⟩) 32 32)).run Tryz.prog wx = .ok (.string ⟨key.toArray⟩) wx) (S := fun wx => Sp w [] wx (idealR b D [] :: boxR q5 #[.int .u64 e.id, .string ⟨e.dom.toArray⟩, .int .u64 e.ep, .int .u64 e.cnt, .string ⟨e.frm.1.toArray⟩, .string ⟨e.frm.2.toArray⟩, .slice va e.rcs.length vc, .int .u64 e.born, .int .u64 e.nxt, .int .i64 e.tries] 27 :: boxR q8 oc 41 :: boxR q7 kc 41 :: [])) (by kernel_rfl) (by kernel_rfl) (by kernel_rfl) HS4.out.drew (fun x h => ⟨((Sp.pick [_, _] [1] (by decide) (h))).cell, HCV.out x q7 ((Sp.pick [_, _, _, _] [3] (by decide) (h))).cell⟩) ?_
    repeat
      refine Exists.intro _ (And.intro rfl (Or.inl (Exists.intro ?_ (And.intro (fun wS hS K hK => ?_) (And.intro ?_ ?_)))))
      rotate_left 1
      · obtain ⟨t0, t1⟩ := hS
        first
          | (refine if_unwanted rfl ?_; simp only [Act.put, List.setIfInBounds_toArray, List.set_cons_zero, List.set_cons_succ]; exact hK.out)
          | (refine if_wanted rfl ?_; go_simp; exact hK.out)
      · rfl
    refine ChainG.one rfl rfl rfl (fun wS hS R hR => ?_)
    go_simp
    go_at_call 27
    refine (HTS.out _ _ hS).mono ?_
    rintro e w7 ⟨rfl, S7⟩
    refine hR.out _ _ rfl (fun wx => (∀ o, wx.cell? ⟨q5, o, none⟩ = (#[.int .u64 e.id, .string ⟨e.dom.toArray⟩, .int .u64 e.ep, .int .u64 e.cnt, .string ⟨e.frm.1.toArray⟩, .string ⟨e.frm.2.toArray⟩, .slice va e.rcs.length vc, .int .u64 e.born, .int .u64 e.nxt, .int .i64 e.tries])[o]?) ∧ (convert 44 9 (.slice (some ⟨q7, 0, none⟩) 32 32)).run Tryz.prog wx = .ok (.string ⟨key.toArray⟩) wx) (fun wx => Sp w [] wx (idealR b D2 T2 :: boxR q5 #[.int .u64 e.id, .string ⟨e.dom.toArray⟩, .int .u64 e.ep, .int .u64 e.cnt, .string ⟨e.frm.1.toArray⟩, .string ⟨e.frm.2.toArray⟩, .slice va e.rcs.length vc, .int .u64 e.born, .int .u64 e.nxt, .int .i64 e.tries] 27 :: boxR q8 oc 41 :: boxR q7 kc 41 :: [])) S7 (fun x h => ⟨((Sp.pick [_, _] [1] (by decide) (h))).cell, HCV.out x q7 ((Sp.pick [_, _, _, _] [3] (by decide) (h))).cell⟩) (fun _ h => h) ?_
    clear hR hS S7
    repeat
      refine Exists.intro _ (And.intro rfl (Or.inl (Exists.intro ?_ (And.intro (fun wS hS K hK => ?_) (And.intro ?_ ?_)))))
      rotate_left 1
      · obtain ⟨t0, t1⟩ := hS
        first
          | (refine if_unwanted rfl ?_; simp only [Act.put, List.setIfInBounds_toArray, List.set_cons_zero, List.set_cons_succ]; exact hK.out)
          | (refine if_wanted rfl ?_; go_simp; exact hK.out)
      · rfl
    intro wE hE
    have HSE := Lib.hid hE
    clear hE
    clear HTS HID
    cases hm : enMay e with
    | false =>
      have h := HQ1.out hm
      simp only [Prod.mk.injEq] at h
      obtain ⟨⟨rfl, rfl⟩, _⟩ := h
      clear hm HQ1 HQ2
      go_wp2
      go_ret
      exact ⟨rfl, HSE.out.ext⟩
    | true =>
      have h := HQ2.out hm
      have HOK := Lib.hid (turned_ok (key := key) (D := D) hm HBL.out)
      have HFLN := Lib.hid (file_len (D := D) hm HBL.out)
      have HTU := Lib.hid (fun (k2 : Bs) (h2 : k2.length = 32) (s2 : Bs) => turned_open uB (s := s2) (c := D.take ((fillB body).length + 16)) hm HBL.out HK.out h2 (by
        have hl := fillB_length HBL.out
        have hbl := bucket_le (textB body).length
        have := HZL.out
        rw [List.length_take]
        omega) (uB_keys HK.out h2))
      simp only [Prod.mk.injEq] at h
      obtain ⟨⟨hfl, rfl⟩, _, hT2⟩ := h
      rw [← hT2] at HOK HTU
      rw [← hfl] at HFLN HTU
      have HOZ := Lib.hid (fun (k2 s2 : Bs) => @open_zero uB T2 k2 s2)
      clear hm HQ1 HQ2 hfl hT2
      have hcv := HCV.out wE q7 ((Sp.pick [_, _, _, _] [3] (by decide) (HSE.out))).cell
      go_wp2_with fail
      refine (enOpenI key s HSL.out (by have := HK.out; omega) HE.out HOK.out HSE.out).mono ?_
      rintro r w5 ⟨u, rfl, S⟩
      have HZ1 := Lib.hid (HTU.out key HK.out s)
      have HZ2 := Lib.hid (HOZ.out key s)
      generalize enOpen uB T2 key s = r1 at *
      obtain ⟨g1, t1, f1⟩ := r1
      dsimp only at *
      obtain ⟨ua, uc, rfl⟩ := S.tosAt.form
      unfold enAgg
      have HS5 := Lib.hid (S.drop.box (enCells g1 (.slice ua g1.rcs.length uc)) 27)
      unfold enCells at HS5
      clear S hcv HSE
      go_upto_region 10 with (fail)
      generalize w5.alloc _ = w6 at *
      generalize w5.heap.size = q14 at *
      have hcv := HCO.out w6 q8 ((Sp.pick [_, _, _, _] [3] (by decide) (HS5.out))).cell
      have HS6 := Lib.hid ((Sp.pick [_, _, _, _, _] [1, 2, 3, 4] (by decide) (HS5.out)))
      clear HS5
      have HD : Hid ((f1 = 0 ∧ s = fl) ∨ (f1 ≠ 0 ∧ s ≠ fl ∧ t1 = [])) := by
        unfold Hid
        by_cases h : f1 = 0
        · exact .inl ⟨h, (HZ1.out.1 h).2⟩
        · exact .inr ⟨h, fun hs => h (HZ1.out.2 ⟨rfl, hs⟩), HZ2.out h⟩
      clear HZ1 HZ2
      have HZ3 := Lib.hid (HTU.out other HO.out fl)
      have HZ4 := Lib.hid (HOZ.out other fl)
      have HOP := Lib.hid (enOpenI other fl HFLN.out (by have := HO.out; omega) HE.out HOK.out HS6.out)
      generalize enOpen uB T2 other fl = r2 at *
      obtain ⟨g2, t2, f2⟩ := r2
      dsimp only at *
      have HD2 : Hid ((f2 = 0 ∧ key = other) ∨ (f2 ≠ 0 ∧ key ≠ other ∧ t2 = [])) := by
        unfold Hid
        by_cases h : f2 = 0
        · exact .inl ⟨h, (HZ3.out.1 h).1.symm⟩
        · exact .inr ⟨h, fun hs => h (HZ3.out.2 ⟨hs.symm, rfl⟩), HZ4.out h⟩
      clear HZ3 HZ4 HTU HOZ
      rcases HD.out with ⟨h1, h2⟩ | ⟨h1, h2, h3⟩
      · subst h1 h2
        clear HD
        go_wp2_with fail
        refine HOP.out.mono ?_
        rintro r w7 ⟨u2, rfl, S⟩
        obtain ⟨ub, ud, rfl⟩ := S.tosAt.form
        unfold enAgg
        have HS7 := Lib.hid (S.drop.box (enCells g2 (.slice ub g2.rcs.length ud)) 27)
        unfold enCells at HS7
        clear S HS6 hcv HOP
        go_upto_region 13 with (fail)
        generalize w7.alloc _ = w8 at *
        generalize w7.heap.size = q17 at *
        have k7 := Lib.hid ((Sp.pick [_, _, _, _, _] [4] (by decide) (HS7.out))).boxed
        have k8 := Lib.hid ((Sp.pick [_, _, _, _, _] [3] (by decide) (HS7.out))).boxed
        rcases HD2.out with ⟨h1, h2⟩ | ⟨h1, h2, h3⟩
        · have heq := HEQ.out
          rw [decide_eq_true h2] at heq
          subst h1
          clear HD2
          go_wp2_with (first | (refine wpList_load_row rfl 41 _ rfl q7 rfl 41 kc (0, 0) _ k7.out Tryz.underlying41 rfl (by rw [HKS.out]; kernel_rfl) ?_) | (refine wpList_load_row rfl 41 _ rfl q8 rfl 41 oc (0, 0) _ k8.out Tryz.underlying41 rfl (by rw [HOS.out]; kernel_rfl) ?_))
          go_ret
          exact ⟨rfl, HS7.out.ext⟩
        · have hb3 : (f2 == 0) = false := by simpa using h1
          have heq := HEQ.out
          rw [decide_eq_false h2] at heq
          subst h3
          clear h1 h2 HD2
          go_wp2_with (first | (refine wpList_load_row rfl 41 _ rfl q7 rfl 41 kc (0, 0) _ k7.out Tryz.underlying41 rfl (by rw [HKS.out]; kernel_rfl) ?_) | (refine wpList_load_row rfl 41 _ rfl q8 rfl 41 oc (0, 0) _ k8.out Tryz.underlying41 rfl (by rw [HOS.out]; kernel_rfl) ?_))
          go_ret
          exact ⟨rfl, HS7.out.ext⟩
      · have hb1 : (f1 == 0) = false := by simpa using h1
        have hb1' : (f1 != 0) = true := by simpa using h1
        have hb2 : (s == fl) = false := by simpa using h2
        subst h3
        clear h1 h2 HD
        go_wp2_with fail
        refine HOP.out.mono ?_
        rintro r w7 ⟨u2, rfl, S⟩
        obtain ⟨ub, ud, rfl⟩ := S.tosAt.form
        unfold enAgg
        have HS7 := Lib.hid (S.drop.box (enCells g2 (.slice ub g2.rcs.length ud)) 27)
        unfold enCells at HS7
        clear S HS6 hcv HOP
        go_upto_region 13 with (fail)
        generalize w7.alloc _ = w8 at *
        generalize w7.heap.size = q17 at *
        have k7 := Lib.hid ((Sp.pick [_, _, _, _, _] [4] (by decide) (HS7.out))).boxed
        have k8 := Lib.hid ((Sp.pick [_, _, _, _, _] [3] (by decide) (HS7.out))).boxed
        rcases HD2.out with ⟨h1, h2⟩ | ⟨h1, h2, h3⟩
        · have heq := HEQ.out
          rw [decide_eq_true h2] at heq
          subst h1
          clear HD2
          go_wp2_with (first | (refine wpList_load_row rfl 41 _ rfl q7 rfl 41 kc (0, 0) _ k7.out Tryz.underlying41 rfl (by rw [HKS.out]; kernel_rfl) ?_) | (refine wpList_load_row rfl 41 _ rfl q8 rfl 41 oc (0, 0) _ k8.out Tryz.underlying41 rfl (by rw [HOS.out]; kernel_rfl) ?_))
          go_ret
          exact ⟨rfl, HS7.out.ext⟩
        · have hb3 : (f2 == 0) = false := by simpa using h1
          have heq := HEQ.out
          rw [decide_eq_false h2] at heq
          subst h3
          clear h1 h2 HD2
          go_wp2_with (first | (refine wpList_load_row rfl 41 _ rfl q7 rfl 41 kc (0, 0) _ k7.out Tryz.underlying41 rfl (by rw [HKS.out]; kernel_rfl) ?_) | (refine wpList_load_row rfl 41 _ rfl q8 rfl 41 oc (0, 0) _ k8.out Tryz.underlying41 rfl (by rw [HOS.out]; kernel_rfl) ?_))
          go_ret
          exact ⟨rfl, HS7.out.ext⟩
end
end Go.Proofs.YtkenacggjffjnaaGreatDoor
