/- DiskNames' walk and its plain law: names rise, each once; those that begin so are just those of all. -/
import Derived.Test.YtngbmofocochaaaArgs
import Derived.Test.YtngbmofocochaaaKeys
namespace Go.Proofs.Ytngbmofocochaaa
open Go.RowKit Go.Maps Go.Sort

theorem names_nil (F : Fs) : F.names [] = F.keys := by
  unfold Fs.names Fs.keys
  rw [List.filter_eq_self]
  simp
theorem names_filter (F : Fs) (pre : Bs) : F.names pre = F.keys.filter fun k => pre.isPrefixOf k := rfl

/-- Where a slice of strings lies. -/
theorem Strs.view {w : World} {v : Value} {l : List Bs} (h : Strs w v l) : ∃ a cap, v = .slice a l.length cap ∧ l.length ≤ maxLen ∧ ∀ w2, Ext [] w w2 → ∀ j, (hj : j < l.length) → ∃ g, a = some ⟨g, 0, none⟩ ∧ w2.cell? ⟨g, j, none⟩ = some (.string ⟨l[j].toArray⟩) := by
  rcases h.2 with ⟨rfl, h0⟩ | ⟨g, cap, cur, rfl, _, hg, hc, hm, _⟩
  · exact ⟨none, 0, by rw [h0], by omega, fun _ _ j hj => absurd hj (by omega)⟩
  · refine ⟨_, _, rfl, by omega, fun w2 hx j hj => ⟨g, rfl, ?_⟩⟩
    have hc := World.ownsRow.cells h (g := g) rfl j (encStr l[j]) (by rw [List.getElem?_map, List.getElem?_eq_getElem hj]; rfl)
    have add : (⟨g, 0, none⟩ : Addr).add j = ⟨g, j, none⟩ := by unfold Addr.add; split <;> simp_all
    rw [add] at hc
    exact hx.cell hc (by simp)

def countTo (p : Bs → Bool) (l : List Bs) (j : Nat) : Nat := ((l.take j).filter p).length
theorem countTo_succ (p : Bs → Bool) (l : List Bs) (j : Nat) (h : j < l.length) : countTo p l (j + 1) = countTo p l j + if p l[j] then 1 else 0 := by
  unfold countTo
  rw [List.take_succ_eq_append_getElem h, List.filter_append, List.length_append]
  congr 1
  by_cases hp : p l[j] = true
  · simp [hp]
  · simp [hp]
theorem countTo_le (p : Bs → Bool) (l : List Bs) (j : Nat) : countTo p l j ≤ j := by
  unfold countTo
  have h1 := List.length_filter_le p (l.take j)
  have h2 := List.length_take_le j l
  omega
theorem filter_at (p : Bs → Bool) (l : List Bs) (j : Nat) (h : j < l.length) (hp : p l[j] = true) : ∃ h2 : countTo p l j < (l.filter p).length, (l.filter p)[countTo p l j]'h2 = l[j] := by
  have e : l.filter p = (l.take j).filter p ++ (l[j] :: (l.drop (j + 1)).filter p) := by
    conv => lhs; rw [← List.take_append_drop j l, List.filter_append, List.drop_eq_getElem_cons h, List.filter_cons, if_pos hp]
  have h2 : countTo p l j < (l.filter p).length := by rw [e]; simp [countTo]
  refine ⟨h2, ?_⟩
  have : (l.filter p)[countTo p l j]? = some l[j] := by
    rw [e, List.getElem?_append_right (by simp [countTo])]
    simp [countTo]
  rw [List.getElem?_eq_getElem h2] at this
  exact Option.some.inj this
theorem cut_eq (s : Bs) (n : Nat) : ((ByteArray.mk s.toArray).extract 0 n).toList = s.take n := by
  rw [ByteArray.extract_mk, ByteArray.toList_mk]
  simp
theorem countTo_all (p : Bs → Bool) (l : List Bs) : countTo p l l.length = (l.filter p).length := by
  unfold countTo
  rw [List.take_of_length_le (Nat.le_refl _)]

set_option maxRecDepth 100000 in
set_option maxHeartbeats 4000000 in
theorem diskNames_walk (v0 : Value) (l : List Act11) (pre : Bs) (w : World) (ha : ActsAt w v0 l) (hpl : pre.length ≤ maxLen) :
    Calls Try.prog 7 #[v0, .string ⟨pre.toArray⟩] w fun e w2 => e = .returned (.bool true) ∧ Ext [] w w2 := by
  obtain ⟨a0, cap0, rfl, hcells⟩ := acts_view ha
  have HC := Lib.hid hcells
  clear ha hcells
  go_enter Try.func7, Try.ntmps7
  go_wp2_with fail
  refine (awake_any w).mono ?_
  rintro r w1 ⟨rfl, hx1⟩
  have X1 := Lib.hid hx1
  clear hx1
  unfold maxLen at hpl
  by_cases h200 : 200 < pre.length
  · go_wp2
    go_ret
    exact ⟨rfl, X1.out⟩
  · have h200b : decide ((200 : Int) < pre.length) = false := by simp; omega
    have hpl' : (pre.length : Int) ≤ 200 := by omega
    clear h200 hpl
    go_wp2_with fail
    refine (new_any w1).mono ?_
    rintro r w2 ⟨p, F0, rfl, hd, hx, hk⟩
    have L0 : Hid (Lives w w2 p F0 Dk.new) := ⟨hd, X1.out.trans hx (by simp), fun x hh => by have := hk x hh; have := X1.out.size; omega⟩
    clear hd hx hk
    go_wp2_with fail
    go_loopw [6] (fun i wr => ∃ k : Nat, i = .int .i64 k ∧ k ≤ 100 ∧ ∃ F D, Lives w wr p F D ∧ D.Ok (1300 * k) ∧ KHist D) (fun i _ => 100 - (intOf i).toNat)
    case atStart => exact ⟨0, rfl, by omega, F0, _, L0.out, ok_new, KHist.new⟩
    case round =>
      obtain ⟨k, rfl, hk, F, D, hL, hO, hKH⟩ := hrel
      have HL := Lib.hid hL
      have HO := Lib.hid hO
      have HKH := Lib.hid hKH
      clear hL hO X1 hKH
      by_cases hcont : k < l.length ∧ k < 100
      · obtain ⟨hk1, hk2⟩ := hcont
        obtain ⟨hwf, hll, b, off, rfl, c0, c1, c2, c3⟩ := HC.out wr HL.out.ext k hk1
        have HACT := Lib.hid (fun w2 hx => HC.out w2 hx k hk1)
        unfold maxLen at hll
        generalize l[k] = x at *
        have HWF := Lib.hid hwf
        clear hwf
        go_wp2_with fail
        refine (large_any x _ HWF.out.a HWF.out.b).mono ?_
        rintro r w3 ⟨rfl, hx3⟩
        have L3 := Lib.hid (HL.out.more hx3)
        clear hx3 c0 c1 c2 c3
        by_cases hlg : x.large = true
        · go_wp2
          go_ret
          exact ⟨rfl, L3.out.ext⟩
        · have hlg : x.large = false := by simpa using hlg
          obtain ⟨_, _, b', off', hbo, c0, c1, c2, c3⟩ := HACT.out w3 L3.out.ext
          obtain ⟨rfl, rfl⟩ : b = b' ∧ off = off' := by injection hbo with h; injection h with h1 h2; exact ⟨h1, h2⟩
          clear hbo
          go_wp2_with fail
          refine (play_any p F D x _ L3.out.disk (HO.out.playFit (by omega) hlg)).mono ?_
          clear c0 c1 c2 c3
          have HO6 : Hid ((D.play x).1.Ok (1300 * (k + 1))) := HO.out.play hlg HWF.out.n2
          have HK6 : Hid (KHist (D.play x).1) := HKH.out.play x
          generalize hpl2 : D.play x = pl at *
          obtain ⟨D2, c⟩ := pl
          clear hpl2
          rintro r w6 ⟨rfl, F2, hd6, hm6⟩
          have L6 := Lib.hid (L3.out.step hm6 hd6)
          clear hd6 hm6 L3
          go_wp2_with fail
          go_roundw
          case rel => exact ⟨k + 1, by go_num, by omega, F2, D2, L6.out, HO6.out, HK6.out⟩
          case measure => simp [intOf]; omega
      · have hstop : l.length ≤ k ∨ (k < l.length ∧ 100 ≤ k) := by omega
        obtain ⟨K, hK⟩ : ∃ K, D.now.keys = K := ⟨_, rfl⟩
        have HPW : Hid (K.Pairwise fun a b => bytesBefore a b = true) := by rw [← hK]; unfold Fs.keys Hid; rw [List.pairwise_map]; exact HKH.out.good.1
        have HMAY : Hid (∀ k ∈ K, may k = true) := by rw [← hK]; exact HKH.out.good.2.1
        have hK200 : (K.length : Int) ≤ 200 := by rw [← hK]; have := HKH.out.good.2.2; omega
        have HK := Lib.hid hK
        clear hK
        have hnl : D.now.length < 1000000000000 := by have := HO.out.now; omega
        clear hcont
        rcases hstop with hs | ⟨hs, hs2⟩
        all_goals
          go_wp2_with fail
          refine (list_any p F D [] _ HL.out.disk hnl).mono ?_
          rintro r w3 ⟨va, rfl, hsa, hx3, _⟩
          rw [names_nil, HK.out] at hsa
          obtain ⟨aa, capa, rfl, hla, hva⟩ := Strs.view hsa
          have L3 := Lib.hid (HL.out.more hx3)
          have HVA := Lib.hid hva
          have HLA := Lib.hid hla
          clear hsa hx3 hva hla
          go_wp2_with fail
          refine (list_any p F D pre _ L3.out.disk hnl).mono ?_
          rintro r w4 ⟨vs, rfl, hss, hx4, _⟩
          rw [names_filter, HK.out] at hss
          obtain ⟨ass, caps, rfl, hls, hvs⟩ := Strs.view hss
          have L4 := Lib.hid (L3.out.more hx4)
          have HVS := Lib.hid (hvs w4 (Ext.refl [] w4))
          have HVA4 := Lib.hid (HVA.out w4 hx4)
          clear hss hx4 hvs hls HVA L3
          have HSO : Hid (∀ i j, (hi : i < j) → (hj : j < K.length) → K[i] < K[j]) := by
            intro i j hi hj
            have h2 := List.pairwise_iff_getElem.1 HPW.out i j (by omega) hj hi
            rw [bytesBefore_eq, decide_eq_true_eq] at h2
            exact h2
          have HSL : Hid ((K.filter fun k => pre.isPrefixOf k).length ≤ K.length) := List.length_filter_le _ _
          clear HKH HPW
          go_wp2_with fail
          go_loopw [9, 46] (fun n j wr => ∃ q : Nat, j = .int .i64 q ∧ q ≤ K.length ∧ n = .int .i64 (countTo (fun k => pre.isPrefixOf k) K q) ∧ w4 = wr) (fun _ j _ => K.length - (intOf j).toNat)
          case atStart => exact ⟨0, rfl, Nat.zero_le _, rfl, rfl⟩
          case round =>
            obtain ⟨q, rfl, hq, rfl, rfl⟩ := hrel
            by_cases hqk : q < K.length
            · obtain ⟨ga, rfl, ca⟩ := HVA4.out q hqk
              have hmay := HMAY.out K[q] (List.getElem_mem hqk)
              have hcs := countTo_succ (fun k => pre.isPrefixOf k) K q hqk
              have hcle := countTo_le (fun k => pre.isPrefixOf k) K q
              have HCS := Lib.hid hcs
              have HFA := Lib.hid (fun hp => filter_at (fun k => pre.isPrefixOf k) K q hqk hp)
              have HPREV : Hid (∀ i, q = i + 1 → ∃ pv : Bs, w4.cell? ⟨ga, i, none⟩ = some (.string ⟨pv.toArray⟩) ∧ Op.bytesLess pv K[q] = true) := by
                intro i hi
                obtain ⟨ga', hga, cp⟩ := HVA4.out i (by omega)
                obtain rfl : ga = ga' := by injection hga with h; injection h
                refine ⟨_, cp, ?_⟩
                rw [bytesLess_eq, decide_eq_true_eq]
                exact HSO.out i q (by omega) hqk
              have HSOME : Hid (pre.isPrefixOf K[q] = true → countTo (fun k => pre.isPrefixOf k) K q < (K.filter fun k => pre.isPrefixOf k).length ∧ ∃ gs, ass = some ⟨gs, 0, none⟩ ∧ w4.cell? ⟨gs, countTo (fun k => pre.isPrefixOf k) K q, none⟩ = some (.string ⟨K[q].toArray⟩)) := by
                intro hp
                obtain ⟨h2, h3⟩ := HFA.out hp
                obtain ⟨gs, hgs, cs⟩ := HVS.out _ h2
                rw [h3] at cs
                exact ⟨h2, gs, hgs, cs⟩
              clear hcs HFA
              generalize K[q] = sq at *
              generalize hcq : countTo (fun k => pre.isPrefixOf k) K q = cq at *
              have HCQ := Lib.hid hcq
              have h80 : (sq.length : Int) ≤ 80 := by simp only [may, Bool.and_eq_true, decide_eq_true_eq] at hmay; omega
              have hsm : sq.length ≤ maxLen := by unfold maxLen; omega
              have hq200 : (q : Int) < 200 := by omega
              clear hcq
              rcases q with _ | i
              · clear HPREV
                by_cases hp : pre.isPrefixOf sq = true
                · obtain ⟨hcl, gs, rfl, cs⟩ := HSOME.out hp
                  have hpp := List.isPrefixOf_iff_prefix.1 hp
                  have hple : pre.length ≤ sq.length := hpp.length_le
                  have hex : (((ByteArray.mk sq.toArray).extract 0 pre.length).toList == pre) = true := by rw [cut_eq]; obtain ⟨t, rfl⟩ := hpp; simp
                  have HP := Lib.hid hp
                  clear hp hpp
                  go_wp2_with (go_at_call 21; refine (may_any sq _ hsm).mono ?_; rintro r wz ⟨rfl, rfl⟩)
                  go_roundw
                  case rel => exact ⟨0 + 1, by go_num, by omega, by rw [HCS.out, if_pos HP.out]; go_num, by trivial⟩
                  case measure => simp [intOf]; omega
                · have hno : decide (sq.length < pre.length) = true ∨ (decide (sq.length < pre.length) = false ∧ pre.length ≤ sq.length ∧ (((ByteArray.mk sq.toArray).extract 0 pre.length).toList == pre) = false) := by
                    by_cases hlt : sq.length < pre.length
                    · exact .inl (by simpa using hlt)
                    · refine .inr ⟨by simpa using hlt, by omega, ?_⟩
                      rw [cut_eq, beq_eq_false_iff_ne]
                      intro he
                      exact hp (List.isPrefixOf_iff_prefix.2 ⟨sq.drop pre.length, by conv => lhs; arg 1; rw [← he]
                                                                                     exact List.take_append_drop _ _⟩)
                  have HP := Lib.hid hp
                  clear hp
                  rcases hno with hno | ⟨hno, hno1, hno2⟩
                  all_goals
                    go_wp2_with (go_at_call 21; refine (may_any sq _ hsm).mono ?_; rintro r wz ⟨rfl, rfl⟩)
                    go_roundw
                    case rel => exact ⟨0 + 1, by go_num, by omega, by rw [HCS.out, if_neg HP.out]; go_num, by trivial⟩
                    case measure => simp [intOf]; omega
              · obtain ⟨pv, cp, hbl⟩ := HPREV.out i rfl
                clear HPREV
                by_cases hp : pre.isPrefixOf sq = true
                · obtain ⟨hcl, gs, rfl, cs⟩ := HSOME.out hp
                  have hpp := List.isPrefixOf_iff_prefix.1 hp
                  have hple : pre.length ≤ sq.length := hpp.length_le
                  have hex : (((ByteArray.mk sq.toArray).extract 0 pre.length).toList == pre) = true := by rw [cut_eq]; obtain ⟨t, rfl⟩ := hpp; simp
                  have HP := Lib.hid hp
                  clear hp hpp
                  go_wp2_with (go_at_call 21; refine (may_any sq _ hsm).mono ?_; rintro r wz ⟨rfl, rfl⟩)
                  go_roundw
                  case rel => exact ⟨(i + 1) + 1, by go_num, by omega, by rw [HCS.out, if_pos HP.out]; go_num, by trivial⟩
                  case measure => simp [intOf]; omega
                · have hno : decide (sq.length < pre.length) = true ∨ (decide (sq.length < pre.length) = false ∧ pre.length ≤ sq.length ∧ (((ByteArray.mk sq.toArray).extract 0 pre.length).toList == pre) = false) := by
                    by_cases hlt : sq.length < pre.length
                    · exact .inl (by simpa using hlt)
                    · refine .inr ⟨by simpa using hlt, by omega, ?_⟩
                      rw [cut_eq, beq_eq_false_iff_ne]
                      intro he
                      exact hp (List.isPrefixOf_iff_prefix.2 ⟨sq.drop pre.length, by conv => lhs; arg 1; rw [← he]
                                                                                     exact List.take_append_drop _ _⟩)
                  have HP := Lib.hid hp
                  clear hp
                  rcases hno with hno | ⟨hno, hno1, hno2⟩
                  all_goals
                    go_wp2_with (go_at_call 21; refine (may_any sq _ hsm).mono ?_; rintro r wz ⟨rfl, rfl⟩)
                    go_roundw
                    case rel => exact ⟨(i + 1) + 1, by go_num, by omega, by rw [HCS.out, if_neg HP.out]; go_num, by trivial⟩
                    case measure => simp [intOf]; omega
            · have hqe : q = K.length := by omega
              have hca : Hid (countTo (fun k => pre.isPrefixOf k) K q = (K.filter fun k => pre.isPrefixOf k).length) := by rw [hqe]; exact countTo_all _ _
              generalize countTo (fun k => pre.isPrefixOf k) K q = cq at *
              have hcc : ((cq : Int) == ((K.filter fun k => pre.isPrefixOf k).length : Int)) = true := by rw [hca.out]; simp
              clear hqe
              go_wp2_with fail
              go_ret
              exact ⟨ret_bool (by simp), L4.out.ext⟩
end Go.Proofs.Ytngbmofocochaaa
