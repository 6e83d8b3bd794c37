/- chacha: Block. Conditions: a key of 32 bytes, a nonce of 12, a counter below 2^32. -/
import Derived.Test.YtkenacggjffjnaaGreatDoorChA
import Derived.Test.YtkenacggjffjnaaGreatDoorChainG
import Derived.Test.YtkenacggjffjnaaGreatDoorArI
import Derived.Deep.RegionHeld3
set_option linter.unusedSimpArgs false
set_option linter.unusedVariables false
set_option linter.unnecessarySimpa false
namespace Go.Proofs.YtkenacggjffjnaaGreatDoor
open Go.RowKit

section
variable {w0 w : World} {F0 : List Nat} {L : List Res} {v : Value}
theorem place_at (i : Nat) (h : i < 8) : ∃ p0 p1 p2 p3 : Nat, chPlaces.getD i [] = [p0, p1, p2, p3] ∧ p0 < 16 ∧ p1 < 16 ∧ p2 < 16 ∧ p3 < 16 ∧
    ∀ w, (Instr.index 187 (.agg placesV) (.int .i64 i)).run Tryz.prog w = .ok (.agg #[.int .i64 p0, .int .i64 p1, .int .i64 p2, .int .i64 p3]) w := by
  have : i = 0 ∨ i = 1 ∨ i = 2 ∨ i = 3 ∨ i = 4 ∨ i = 5 ∨ i = 6 ∨ i = 7 := by omega
  rcases this with rfl | rfl | rfl | rfl | rfl | rfl | rfl | rfl
  · exact ⟨0, 4, 8, 12, rfl, by decide, by decide, by decide, by decide, fun w => by kernel_rfl⟩
  · exact ⟨1, 5, 9, 13, rfl, by decide, by decide, by decide, by decide, fun w => by kernel_rfl⟩
  · exact ⟨2, 6, 10, 14, rfl, by decide, by decide, by decide, by decide, fun w => by kernel_rfl⟩
  · exact ⟨3, 7, 11, 15, rfl, by decide, by decide, by decide, by decide, fun w => by kernel_rfl⟩
  · exact ⟨0, 5, 10, 15, rfl, by decide, by decide, by decide, by decide, fun w => by kernel_rfl⟩
  · exact ⟨1, 6, 11, 12, rfl, by decide, by decide, by decide, by decide, fun w => by kernel_rfl⟩
  · exact ⟨2, 7, 8, 13, rfl, by decide, by decide, by decide, by decide, fun w => by kernel_rfl⟩
  · exact ⟨3, 4, 9, 14, rfl, by decide, by decide, by decide, by decide, fun w => by kernel_rfl⟩
theorem four_at (p0 p1 p2 p3 k : Nat) (h : k < 4) : (#[Value.int .i64 p0, .int .i64 p1, .int .i64 p2, .int .i64 p3])[k]? = some (.int .i64 (([p0, p1, p2, p3].getD k 0 : Nat) : Int)) := by
  have : k = 0 ∨ k = 1 ∨ k = 2 ∨ k = 3 := by omega
  rcases this with rfl | rfl | rfl | rfl <;> rfl
theorem four_q (q : W4) (k : Nat) (h : k < 4) : (#[Value.int .u32 q.a, .int .u32 q.b, .int .u32 q.c, .int .u32 q.d])[k]? = some (.int .u32 (q.get k : Int)) := by
  have : k = 0 ∨ k = 1 ∨ k = 2 ∨ k = 3 := by omega
  rcases this with rfl | rfl | rfl | rfl <;> rfl
theorem four_lt (p0 p1 p2 p3 k : Nat) (h0 : p0 < 16) (h1 : p1 < 16) (h2 : p2 < 16) (h3 : p3 < 16) : [p0, p1, p2, p3].getD k 0 < 16 := by
  match k with
  | 0 => exact h0
  | 1 => exact h1
  | 2 => exact h2
  | 3 => exact h3
  | _ + 4 => exact Nat.zero_lt_succ 15
theorem chStirE (q : W4) (hq : q.fit) (w : World) : Calls Tryz.prog 175 #[.agg #[.int .u32 q.a, .int .u32 q.b, .int .u32 q.c, .int .u32 q.d]] w fun e w2 => e = .returned (.agg #[.int .u32 (q.upto 2).a, .int .u32 (q.upto 2).b, .int .u32 (q.upto 2).c, .int .u32 (q.upto 2).d]) ∧ Ext [] w w2 :=
  (chStir q hq (Sp.nil w [])).mono fun _ _ ⟨he, S⟩ => ⟨he, S.ext⟩
abbrev zeros4 : Array Value := #[.int .u32 0, .int .u32 0, .int .u32 0, .int .u32 0]
abbrev zeros16 : Array Value := #[.int .u32 0, .int .u32 0, .int .u32 0, .int .u32 0, .int .u32 0, .int .u32 0, .int .u32 0, .int .u32 0, .int .u32 0, .int .u32 0, .int .u32 0, .int .u32 0, .int .u32 0, .int .u32 0, .int .u32 0, .int .u32 0]
set_option maxRecDepth 100000 in
set_option maxHeartbeats 4000000 in
theorem chBlock (key nonce : Bs) (n : Nat) (hk : key.length = 32) (hz : nonce.length = 12) (hn : n < 4294967296) (S : Sp w0 F0 w L) : Calls Tryz.prog 158 #[.string ⟨key.toArray⟩, .int .u32 n, .string ⟨nonce.toArray⟩] w fun e w2 => e = .returned (.tuple #[.string ⟨(blkB key n nonce).toArray⟩, .int .i64 0]) ∧ Sp w0 F0 w2 L := by
  have HMAY := Lib.hid (chMay key nonce hk hz w)
  have HBG := Lib.hid (chBegin key nonce n hk hz hn S)
  have HBK : Hid (blkB key n nonce = blkUp (roundUp (beginL key n nonce) 10) (beginL key n nonce) 16) := rfl
  have HFL : Hid ((beginL key n nonce).length = 16) := beginUp_length _ _
  have HFF : Hid (U32s (beginL key n nonce)) := beginUp_fit _ _
  generalize blkB key n nonce = bk at *
  generalize beginL key n nonce = f at *
  clear S hk hz hn
  go_enter Tryz.func158, Tryz.ntmps158
  go_wp2_with fail
  refine HMAY.out.mono ?_
  rintro e w2 ⟨rfl, rfl⟩
  go_wp2_with fail
  refine HBG.out.mono ?_
  rintro e w3 ⟨rfl, S⟩
  have b1 : (w3.alloc (.cells zeros16 185)).heap[w3.heap.size]? = some (.cells (row32 (List.replicate 16 0)) 185 (0, 0)) := (MapKept.heap_alloc w3 _).1
  have HS1 : Hid (Sp w0 F0 ((w3.alloc (.cells zeros16 185)).setRow w3.heap.size (row32 f)) (boxR w3.heap.size (row32 f) 185 :: L)) := Lib.hid ((S.box (row32 (List.replicate 16 0)) 185).setRow (row32 f))
  clear S HMAY HBG
  go_upto_region 4 with (first
    | refine wpList_store_row rfl 185 _ _ rfl w3.heap.size (row32 f) rfl rfl 185 _ b1 (info16_of HFL.out) (by rw [row32_size, row32_size, HFL.out]; rfl) (row32_one _) ?_
    | fail)
  generalize (w3.alloc (.cells zeros16 185)).setRow w3.heap.size (row32 f) = w4 at *
  generalize w3.heap.size = g8 at *
  clear b1
  simp only [Act.put]
  go_cut [9, 10] (fun v9 v10 wx => ∃ g9 g10 : Nat, v9 = .pointer (some ⟨g9, 0, none⟩) ∧ v10 = .pointer (some ⟨g10, 0, none⟩) ∧ Sp w0 F0 wx (boxR g9 (row32 f) 185 :: boxR g10 placesV 187 :: boxR g8 (row32 f) 185 :: L))
  case first => --dev
    generalize hA : ({ tmps := _, defers := [] } : Act) = a0
    have hsz : a0.tmps.size = 79 := by rw [← hA]; rfl
    have e8 : a0.eval (.tmp 8) = .pointer (some ⟨g8, 0, none⟩) := by rw [← hA]; rfl
    have p25 : ∀ v25 v26 v9 v10 x, ((((a0.put (some 25) v25).put (some 26) v26).put (some 9) v9).put (some 10) v10).put (some 25) x = (((a0.put (some 25) x).put (some 26) v26).put (some 9) v9).put (some 10) v10 := fun v25 v26 v9 v10 x => by rw [put_turn _ 10 25 _ _ (by decide), put_turn _ 9 25 _ _ (by decide), put_turn _ 26 25 _ _ (by decide), put_over]
    have p26 : ∀ v25 v26 v9 v10 x, ((((a0.put (some 25) v25).put (some 26) v26).put (some 9) v9).put (some 10) v10).put (some 26) x = (((a0.put (some 25) v25).put (some 26) x).put (some 9) v9).put (some 10) v10 := fun v25 v26 v9 v10 x => by rw [put_turn _ 10 26 _ _ (by decide), put_turn _ 9 26 _ _ (by decide), put_over]
    have p9 : ∀ v25 v26 v9 v10 x, ((((a0.put (some 25) v25).put (some 26) v26).put (some 9) v9).put (some 10) v10).put (some 9) x = (((a0.put (some 25) v25).put (some 26) v26).put (some 9) x).put (some 10) v10 := fun v25 v26 v9 v10 x => by rw [put_turn _ 10 9 _ _ (by decide), put_over]
    have p10 : ∀ v25 v26 v9 v10 x, ((((a0.put (some 25) v25).put (some 26) v26).put (some 9) v9).put (some 10) v10).put (some 10) x = (((a0.put (some 25) v25).put (some 26) v26).put (some 9) v9).put (some 10) x := fun v25 v26 v9 v10 x => put_over _ _ _ _
    refine wp_region_inv (by kernel_rfl) (by kernel_rfl) (fun l a w => ∃ (v25 v26 v9 v10 : Value) (M9 M10 : List Res), a = (((a0.put (some 25) v25).put (some 26) v26).put (some 9) v9).put (some 10) v10 ∧ (l 4 = true → l 2 = true) ∧ (l 5 = true → l 3 = true) ∧ (l 0 = true → v25 = .agg (row32 f)) ∧ (l 1 = true → v26 = .agg placesV) ∧
      ((l 2 = true ∧ ∃ g, v9 = .pointer (some ⟨g, 0, none⟩) ∧ M9 = [boxR g (if l 4 then row32 f else row32 (List.replicate 16 0)) 185]) ∨ (l 2 = false ∧ M9 = [])) ∧
      ((l 3 = true ∧ ∃ g, v10 = .pointer (some ⟨g, 0, none⟩) ∧ M10 = [boxR g (if l 5 then placesV else zeros32) 187]) ∨ (l 3 = false ∧ M10 = [])) ∧ Sp w0 F0 w (M9 ++ (M10 ++ (boxR g8 (row32 f) 185 :: L)))) ?_ ?_ ?_
    · refine ⟨a0.tmps.getD 25 undef, a0.tmps.getD 26 undef, a0.tmps.getD 9 undef, a0.tmps.getD 10 undef, [], [], ?_, by simp, by simp, by simp, by simp, .inr ⟨rfl, rfl⟩, .inr ⟨rfl, rfl⟩, HS1.out.drew⟩
      rw [put_back a0 25 (by rw [hsz]; decide), put_back a0 26 (by rw [hsz]; decide), put_back a0 9 (by rw [hsz]; decide), put_back a0 10 (by rw [hsz]; decide)]
    · rintro l a w i o ⟨v25, v26, v9, v10, M9, M10, rfl, h42, h53, h0, h1, h2, h3, S⟩ ho hl hpre
      have hi : i = 0 ∨ i = 1 ∨ i = 2 ∨ i = 3 ∨ i = 4 ∨ i = 5 := by
        have := (Array.getElem?_eq_some_iff.1 ho).1
        simp at this
        omega
      rcases hi with rfl | rfl | rfl | rfl | rfl | rfl
      · cases ho
        refine ⟨rfl, ?_⟩
        have hb := (Sp.drops M10 (Sp.drops M9 S)).boxed
        refine wp_load_row 185 _ rfl g8 (by rw [evalP_ne _ 10 8 _ (by decide), evalP_ne _ 9 8 _ (by decide), evalP_ne _ 26 8 _ (by decide), evalP_ne _ 25 8 _ (by decide), e8]) 185 (row32 f) (0, 0) _ hb Tryz.underlying185 rfl (info16_of HFL.out) ?_
        exact ⟨.agg (row32 f), v26, v9, v10, M9, M10, p25 _ _ _ _ _, by simpa using h42, by simpa using h53, fun _ => rfl, by simpa using h1, by simpa using h2, by simpa using h3, S⟩
      · cases ho
        refine ⟨rfl, ?_⟩
        refine Oper.wp_mono (K := fun a2 w2 => a2 = ((((a0.put (some 25) v25).put (some 26) v26).put (some 9) v9).put (some 10) v10).put (some 26) (.agg placesV) ∧ Sp w0 F0 w2 (M9 ++ (M10 ++ (boxR g8 (row32 f) 185 :: L)))) ?_ ?_
        · rintro a2 w2 ⟨rfl, S2⟩
          exact ⟨v25, .agg placesV, v9, v10, M9, M10, p26 _ _ _ _ _, by simpa using h42, by simpa using h53, by simpa using h0, fun _ => rfl, by simpa using h2, by simpa using h3, S2⟩
        · generalize ((((a0.put (some 25) v25).put (some 26) v26).put (some 9) v9).put (some 10) v10) = a1
          go_simp
          refine (chPlacesS S).mono ?_
          rintro e w7 ⟨rfl, S7⟩
          exact ⟨rfl, S7⟩
      · cases ho
        refine ⟨rfl, ?_⟩
        refine Oper.wp_mono (K := fun a2 w2 => a2 = ((((a0.put (some 25) v25).put (some 26) v26).put (some 9) v9).put (some 10) v10).put (some 9) (.pointer (some ⟨w.heap.size, 0, none⟩)) ∧ w2 = w.alloc (.cells zeros16 185)) ?_ ?_
        · rintro a2 w2 ⟨rfl, rfl⟩
          obtain rfl : M9 = [] := by
            rcases h2 with ⟨h, _⟩ | ⟨_, h⟩
            · rw [hl] at h; cases h
            · exact h
          have h4 : l 4 = false := by
            cases h : l 4 with
            | false => rfl
            | true => rw [h42 h] at hl; cases hl
          exact ⟨v25, v26, _, v10, [boxR w.heap.size (row32 (List.replicate 16 0)) 185], M10, p9 _ _ _ _ _, by simp, by simpa using h53, by simpa using h0, by simpa using h1, .inl ⟨by simp, _, rfl, by simp [h4]⟩, by simpa using h3, S.box (row32 (List.replicate 16 0)) 185⟩
        · generalize ((((a0.put (some 25) v25).put (some 26) v26).put (some 9) v9).put (some 10) v10) = a1
          go_simp
      · cases ho
        refine ⟨rfl, ?_⟩
        refine Oper.wp_mono (K := fun a2 w2 => a2 = ((((a0.put (some 25) v25).put (some 26) v26).put (some 9) v9).put (some 10) v10).put (some 10) (.pointer (some ⟨w.heap.size, 0, none⟩)) ∧ w2 = w.alloc (.cells zeros32 187)) ?_ ?_
        · rintro a2 w2 ⟨rfl, rfl⟩
          obtain rfl : M10 = [] := by
            rcases h3 with ⟨h, _⟩ | ⟨_, h⟩
            · rw [hl] at h; cases h
            · exact h
          have h5 : l 5 = false := by
            cases h : l 5 with
            | false => rfl
            | true => rw [h53 h] at hl; cases hl
          have S2 := S.box zeros32 187
          rcases h2 with ⟨h2a, g, rfl, rfl⟩ | ⟨h2a, rfl⟩
          · exact ⟨v25, v26, _, _, [boxR g (if l 4 = true then row32 f else row32 (List.replicate 16 0)) 185], [boxR w.heap.size zeros32 187], p10 _ _ _ _ _, by simpa using h42, by simp, by simpa using h0, by simpa using h1, .inl ⟨by simp [h2a], g, rfl, by simp⟩, .inl ⟨by simp, _, rfl, by simp [h5]⟩, S2.pull1⟩
          · exact ⟨v25, v26, _, _, [], [boxR w.heap.size zeros32 187], p10 _ _ _ _ _, by simpa using h42, by simp, by simpa using h0, by simpa using h1, .inr ⟨by simp [h2a], rfl⟩, .inl ⟨by simp, _, rfl, by simp [h5]⟩, S2⟩
        · generalize ((((a0.put (some 25) v25).put (some 26) v26).put (some 9) v9).put (some 10) v10) = a1
          go_simp
          rfl
      · cases ho
        refine ⟨rfl, ?_⟩
        have hl2 : l 2 = true := hpre ⟨2, .data⟩ (by simp) rfl
        have hl0 : l 0 = true := hpre ⟨0, .data⟩ (by simp) rfl
        obtain rfl := h0 hl0
        rcases h2 with ⟨_, g, rfl, rfl⟩ | ⟨h, _⟩
        · rw [hl, if_neg (by simp)] at S
          refine wp_store_row 185 _ _ rfl g (row32 f) (by rw [evalP_ne _ 10 9 _ (by decide), evalP_same _ 9 _ (by rw [sizeP, sizeP, hsz]; decide)]) (by rw [evalP_ne _ 10 25 _ (by decide), evalP_ne _ 9 25 _ (by decide), evalP_ne _ 26 25 _ (by decide), evalP_same _ 25 _ (by rw [hsz]; decide)]) 185 _ S.boxed (info16_of HFL.out) (by rw [row32_size, row32_size, HFL.out]; rfl) (row32_one _) ?_
          exact ⟨_, v26, _, v10, [boxR g (row32 f) 185], M10, rfl, by simp [hl2], by simpa using h53, fun _ => rfl, by simpa using h1, .inl ⟨by simp [hl2], g, rfl, by simp⟩, by simpa using h3, S.setRow (row32 f)⟩
        · rw [hl2] at h; cases h
      · cases ho
        refine ⟨rfl, ?_⟩
        have hl3 : l 3 = true := hpre ⟨3, .data⟩ (by simp) rfl
        have hl1 : l 1 = true := hpre ⟨1, .data⟩ (by simp) rfl
        obtain rfl := h1 hl1
        rcases h3 with ⟨_, g, rfl, rfl⟩ | ⟨h, _⟩
        · rw [hl, if_neg (by simp)] at S
          have hb : w.heap[g]? = some (.cells zeros32 187 (0, 0)) := (Sp.drops M9 S).boxed
          refine wp_store_row 187 _ _ rfl g placesV (by rw [evalP_same _ 10 _ (by rw [sizeP, sizeP, sizeP, hsz]; decide)]) (by rw [evalP_ne _ 10 26 _ (by decide), evalP_ne _ 9 26 _ (by decide), evalP_same _ 26 _ (by rw [sizeP, hsz]; decide)]) 187 _ hb (by kernel_rfl) (by kernel_rfl) (by kernel_rfl) ?_
          refine ⟨v25, _, v9, _, M9, [boxR g placesV 187], rfl, by simpa using h42, by simp [hl3], by simpa using h0, fun _ => rfl, by simpa using h2, .inl ⟨by simp [hl3], g, rfl, by simp⟩, ?_⟩
          rcases h2 with ⟨_, g9, rfl, rfl⟩ | ⟨_, rfl⟩
          · exact (S.pull1.setRow placesV).pull1
          · exact S.setRow placesV
        · rw [hl3] at h; cases h
    · rintro l a w hl ⟨v25, v26, v9, v10, M9, M10, rfl, h42, h53, h0, h1, h2, h3, S⟩
      have e0 := hl 0 (by decide)
      have e1 := hl 1 (by decide)
      have e2 := hl 2 (by decide)
      have e3 := hl 3 (by decide)
      have e4 := hl 4 (by decide)
      have e5 := hl 5 (by decide)
      rcases h2 with ⟨_, g9, rfl, rfl⟩ | ⟨h, _⟩
      · rcases h3 with ⟨_, g10, rfl, rfl⟩ | ⟨h, _⟩
        · rw [e4, e5, if_pos rfl, if_pos rfl] at S
          rw [← hA]
          simp only [Act.put]
          go_wp2_with fail
          go_meet
          exact ⟨g9, g10, rfl, rfl, S⟩
        · rw [e3] at h; cases h
      · rw [e2] at h; cases h
  case rest =>
    obtain ⟨g9, g10, rfl, rfl, S⟩ := hcut
    have HS2 := Lib.hid S
    clear S HS1
    go_wp2_with fail
    go_loopw [27] (fun i wr => ∃ k : Nat, i = .int .i64 k ∧ k ≤ 10 ∧ Sp w0 F0 wr (boxR g9 (row32 (roundUp f k)) 185 :: boxR g10 placesV 187 :: boxR g8 (row32 f) 185 :: L)) (fun i _ => 10 - (intOf i).toNat)
    case atStart => exact ⟨0, rfl, by decide, HS2.out⟩
    case round =>
      clear HS2
      obtain ⟨k, rfl, hk, S⟩ := hrel
      have HS := Lib.hid S
      have HL := Lib.hid ((roundUp_length f k).trans HFL.out)
      have HU := Lib.hid (roundUp_fit HFF.out k)
      clear S
      by_cases hlt : k < 10
      · have hlt' : (k : Int) < 10 := by omega
        have HE : Hid (stirUp (roundUp f k) 8 = roundUp f (k + 1)) := rfl
        generalize roundUp f k = r at *
        have b10 := HS.out.pull1.boxed
        go_wp2_with (first
          | refine wpList_load_row rfl 187 _ rfl g10 rfl 187 placesV (0, 0) _ b10 Tryz.underlying187 rfl (by kernel_rfl) ?_
          | fail)
        clear b10
        go_wp2_with fail
        go_loopw [30] (fun i wq => ∃ m : Nat, i = .int .i64 m ∧ m ≤ 8 ∧ Sp w0 F0 wq (boxR g9 (row32 (stirUp r m)) 185 :: boxR g10 placesV 187 :: boxR g8 (row32 f) 185 :: L)) (fun i _ => 8 - (intOf i).toNat)
        case atStart => exact ⟨0, rfl, by decide, HS.out⟩
        case round =>
          clear HS
          obtain ⟨m, rfl, hm, S⟩ := hrel
          have HS3 := Lib.hid S
          have HL3 := Lib.hid ((stirUp_length r m).trans HL.out)
          have HU3 := Lib.hid (stirUp_fit HU.out m)
          clear S
          by_cases hlm : m < 8
          · have hlm' : (m : Int) < 8 := by omega
            have HE3 : Hid (laidUp (stirUp r m) (chPlaces.getD m []) ((q4 (stirUp r m) (chPlaces.getD m [])).upto 2) 4 = stirUp r (m + 1)) := rfl
            obtain ⟨p0, p1, p2, p3, hp, h0, h1, h2, h3, hix⟩ := place_at m hlm
            rw [hp] at HE3
            have HQ := Lib.hid (q4_fit HU3.out [p0, p1, p2, p3])
            generalize stirUp r m = s at *
            have HS4 := Lib.hid (HS3.out.box #[.int .i64 p0, .int .i64 p1, .int .i64 p2, .int .i64 p3] 94)
            clear hp HS3
            go_upto_region 10 with (fail)
            generalize (wr.alloc _) = wr2 at *
            generalize wr.heap.size = g12 at *
            have HST : Hid (∀ W, Calls Tryz.prog 175 #[.agg #[.int .u32 (s.getD p0 0 : Nat), .int .u32 (s.getD p1 0 : Nat), .int .u32 (s.getD p2 0 : Nat), .int .u32 (s.getD p3 0 : Nat)]] W fun e w2 => e = .returned (.agg #[.int .u32 ((q4 s [p0, p1, p2, p3]).upto 2).a, .int .u32 ((q4 s [p0, p1, p2, p3]).upto 2).b, .int .u32 ((q4 s [p0, p1, p2, p3]).upto 2).c, .int .u32 ((q4 s [p0, p1, p2, p3]).upto 2).d]) ∧ Ext [] W w2) := fun W => chStirE (q4 s [p0, p1, p2, p3]) HQ.out W
            have HQU := Lib.hid (W4.upto_fit _ HQ.out 2)
            generalize (q4 s [p0, p1, p2, p3]).upto 2 = z at *
            have HF : Hid (∀ wx, Sp w0 F0 wx (boxR g12 #[.int .i64 p0, .int .i64 p1, .int .i64 p2, .int .i64 p3] 94 :: boxR g9 (row32 s) 185 :: boxR g10 placesV 187 :: boxR g8 (row32 f) 185 :: L) →
                Sp w0 F0 wx (boxR g12 #[.int .i64 p0, .int .i64 p1, .int .i64 p2, .int .i64 p3] 94 :: boxR g9 (row32 s) 185 :: boxR g10 placesV 187 :: boxR g8 (row32 f) 185 :: L) ∧ (∀ o, wx.cell? ⟨g12, o, none⟩ = (#[.int .i64 p0, .int .i64 p1, .int .i64 p2, .int .i64 p3])[o]?) ∧
                wx.cell? ⟨g9, p0, none⟩ = some (.int .u32 (s.getD p0 0 : Nat)) ∧ wx.cell? ⟨g9, p1, none⟩ = some (.int .u32 (s.getD p1 0 : Nat)) ∧ wx.cell? ⟨g9, p2, none⟩ = some (.int .u32 (s.getD p2 0 : Nat)) ∧ wx.cell? ⟨g9, p3, none⟩ = some (.int .u32 (s.getD p3 0 : Nat))) := fun wx S => ⟨S, S.cell, S.pull1.at32 (by rw [HL3.out]; exact h0), S.pull1.at32 (by rw [HL3.out]; exact h1), S.pull1.at32 (by rw [HL3.out]; exact h2), S.pull1.at32 (by rw [HL3.out]; exact h3)⟩
            generalize s.getD p0 0 = x0 at *
            generalize s.getD p1 0 = x1 at *
            generalize s.getD p2 0 = x2 at *
            generalize s.getD p3 0 = x3 at *
            have h0' : (p0 : Int) < 16 := by omega
            have h1' : (p1 : Int) < 16 := by omega
            have h2' : (p2 : Int) < 16 := by omega
            have h3' : (p3 : Int) < 16 := by omega
            go_cut [13] (fun v13 wx => ∃ g13 : Nat, v13 = .pointer (some ⟨g13, 0, none⟩) ∧ Sp w0 F0 wx (boxR g9 (row32 s) 185 :: boxR g12 #[.int .i64 p0, .int .i64 p1, .int .i64 p2, .int .i64 p3] 94 :: boxR g13 #[.int .u32 z.a, .int .u32 z.b, .int .u32 z.c, .int .u32 z.d] 189 :: boxR g10 placesV 187 :: boxR g8 (row32 f) 185 :: L))
            case first => --dev
              refine wp_region_held (S := fun wx => Sp w0 F0 wx (boxR g12 #[.int .i64 p0, .int .i64 p1, .int .i64 p2, .int .i64 p3] 94 :: boxR g9 (row32 s) 185 :: boxR g10 placesV 187 :: boxR g8 (row32 f) 185 :: L) ∧ (∀ o, wx.cell? ⟨g12, o, none⟩ = (#[.int .i64 p0, .int .i64 p1, .int .i64 p2, .int .i64 p3])[o]?) ∧ wx.cell? ⟨g9, p0, none⟩ = some (.int .u32 x0) ∧ wx.cell? ⟨g9, p1, none⟩ = some (.int .u32 x1) ∧ wx.cell? ⟨g9, p2, none⟩ = some (.int .u32 x2) ∧ wx.cell? ⟨g9, p3, none⟩ = some (.int .u32 x3)) (by kernel_rfl) ?_
              have hS0 := HF.out _ HS4.out.drew
              refine wpAnyH_takeD (i := 0) 33 (v := ?_) rfl rfl (by kernel_rfl) (by kernel_rfl) (by kernel_rfl) (fun _ _ _ h => h) (Or.inl ⟨by rfl, ?_⟩) hS0 ?_
              rotate_left 1
              · rintro wS ⟨s0, s1, s2, s3, s4, s5⟩
                go_simp
                try with_reducible rfl
              simp only [Act.put, List.setIfInBounds_toArray, List.set_cons_zero, List.set_cons_succ]
              refine wpAnyH_takeD (i := 1) 34 (v := ?_) rfl rfl (by kernel_rfl) (by kernel_rfl) (by kernel_rfl) (fun _ _ _ h => h) (Or.inl ⟨by rfl, ?_⟩) hS0 ?_
              rotate_left 1
              · rintro wS ⟨s0, s1, s2, s3, s4, s5⟩
                go_simp
                try with_reducible rfl
              simp only [Act.put, List.setIfInBounds_toArray, List.set_cons_zero, List.set_cons_succ]
              refine wpAnyH_takeD (i := 2) 35 (v := ?_) rfl rfl (by kernel_rfl) (by kernel_rfl) (by kernel_rfl) (fun _ _ _ h => h) (Or.inl ⟨by rfl, ?_⟩) hS0 ?_
              rotate_left 1
              · rintro wS ⟨s0, s1, s2, s3, s4, s5⟩
                go_simp
                try with_reducible rfl
              simp only [Act.put, List.setIfInBounds_toArray, List.set_cons_zero, List.set_cons_succ]
              refine wpAnyH_takeD (i := 3) 36 (v := ?_) rfl rfl (by kernel_rfl) (by kernel_rfl) (by kernel_rfl) (fun _ _ _ h => h) (Or.inl ⟨by rfl, ?_⟩) hS0 ?_
              rotate_left 1
              · rintro wS ⟨s0, s1, s2, s3, s4, s5⟩
                go_simp
                try with_reducible rfl
              simp only [Act.put, List.setIfInBounds_toArray, List.set_cons_zero, List.set_cons_succ]
              refine wpAnyH_takeD (i := 4) 37 (v := ?_) rfl rfl (by kernel_rfl) (by kernel_rfl) (by kernel_rfl) (fun _ _ _ h => h) (Or.inl ⟨by rfl, ?_⟩) hS0 ?_
              rotate_left 1
              · rintro wS ⟨s0, s1, s2, s3, s4, s5⟩
                go_simp
                try with_reducible rfl
              simp only [Act.put, List.setIfInBounds_toArray, List.set_cons_zero, List.set_cons_succ]
              refine wpAnyH_takeD (i := 5) 38 (v := ?_) rfl rfl (by kernel_rfl) (by kernel_rfl) (by kernel_rfl) (fun _ _ _ h => h) (Or.inl ⟨by rfl, ?_⟩) hS0 ?_
              rotate_left 1
              · rintro wS ⟨s0, s1, s2, s3, s4, s5⟩
                go_simp
                try with_reducible rfl
              simp only [Act.put, List.setIfInBounds_toArray, List.set_cons_zero, List.set_cons_succ]
              refine wpAnyH_takeD (i := 6) 39 (v := ?_) rfl rfl (by kernel_rfl) (by kernel_rfl) (by kernel_rfl) (fun _ _ _ h => h) (Or.inl ⟨by rfl, ?_⟩) hS0 ?_
              rotate_left 1
              · rintro wS ⟨s0, s1, s2, s3, s4, s5⟩
                go_simp
                try with_reducible rfl
              simp only [Act.put, List.setIfInBounds_toArray, List.set_cons_zero, List.set_cons_succ]
              refine wpAnyH_takeD (i := 7) 40 (v := ?_) rfl rfl (by kernel_rfl) (by kernel_rfl) (by kernel_rfl) (fun _ _ _ h => h) (Or.inl ⟨by rfl, ?_⟩) hS0 ?_
              rotate_left 1
              · rintro wS ⟨s0, s1, s2, s3, s4, s5⟩
                go_simp
                try with_reducible rfl
              simp only [Act.put, List.setIfInBounds_toArray, List.set_cons_zero, List.set_cons_succ]
              refine wpAnyH_takeD (i := 8) 41 (v := ?_) rfl rfl (by kernel_rfl) (by kernel_rfl) (by kernel_rfl) (fun _ _ _ h => h) (Or.inl ⟨by rfl, ?_⟩) hS0 ?_
              rotate_left 1
              · rintro wS ⟨s0, s1, s2, s3, s4, s5⟩
                go_simp
                try with_reducible rfl
              simp only [Act.put, List.setIfInBounds_toArray, List.set_cons_zero, List.set_cons_succ]
              refine wpAnyH_takeD (i := 9) 42 (v := ?_) rfl rfl (by kernel_rfl) (by kernel_rfl) (by kernel_rfl) (fun _ _ _ h => h) (Or.inl ⟨by rfl, ?_⟩) hS0 ?_
              rotate_left 1
              · rintro wS ⟨s0, s1, s2, s3, s4, s5⟩
                go_simp
                try with_reducible rfl
              simp only [Act.put, List.setIfInBounds_toArray, List.set_cons_zero, List.set_cons_succ]
              refine wpAnyH_takeD (i := 10) 43 (v := ?_) rfl rfl (by kernel_rfl) (by kernel_rfl) (by kernel_rfl) (fun _ _ _ h => h) (Or.inl ⟨by rfl, ?_⟩) hS0 ?_
              rotate_left 1
              · rintro wS ⟨s0, s1, s2, s3, s4, s5⟩
                go_simp
                try with_reducible rfl
              simp only [Act.put, List.setIfInBounds_toArray, List.set_cons_zero, List.set_cons_succ]
              refine wpAnyH_takeD (i := 11) 44 (v := ?_) rfl rfl (by kernel_rfl) (by kernel_rfl) (by kernel_rfl) (fun _ _ _ h => h) (Or.inl ⟨by rfl, ?_⟩) hS0 ?_
              rotate_left 1
              · rintro wS ⟨s0, s1, s2, s3, s4, s5⟩
                go_simp
                try with_reducible rfl
              simp only [Act.put, List.setIfInBounds_toArray, List.set_cons_zero, List.set_cons_succ]
              refine wpAnyH_takeD (i := 12) 45 (v := ?_) rfl rfl (by kernel_rfl) (by kernel_rfl) (by kernel_rfl) (fun _ _ _ h => h) (Or.inl ⟨by rfl, ?_⟩) hS0 ?_
              rotate_left 1
              · rintro wS ⟨s0, s1, s2, s3, s4, s5⟩
                go_simp
                try with_reducible rfl
              simp only [Act.put, List.setIfInBounds_toArray, List.set_cons_zero, List.set_cons_succ]
              refine wpAnyH_takeD (i := 13) 46 (v := ?_) rfl rfl (by kernel_rfl) (by kernel_rfl) (by kernel_rfl) (fun _ _ _ h => h) (Or.inl ⟨by rfl, ?_⟩) hS0 ?_
              rotate_left 1
              · rintro wS ⟨s0, s1, s2, s3, s4, s5⟩
                go_simp
                try with_reducible rfl
              simp only [Act.put, List.setIfInBounds_toArray, List.set_cons_zero, List.set_cons_succ]
              refine wpAnyH_takeD (i := 14) 47 (v := ?_) rfl rfl (by kernel_rfl) (by kernel_rfl) (by kernel_rfl) (fun _ _ _ h => h) (Or.inl ⟨by rfl, ?_⟩) hS0 ?_
              rotate_left 1
              · rintro wS ⟨s0, s1, s2, s3, s4, s5⟩
                go_simp
                try with_reducible rfl
              simp only [Act.put, List.setIfInBounds_toArray, List.set_cons_zero, List.set_cons_succ]
              refine wpAnyH_takeD (i := 15) 48 (v := ?_) rfl rfl (by kernel_rfl) (by kernel_rfl) (by kernel_rfl) (fun _ _ _ h => h) (Or.inl ⟨by rfl, ?_⟩) hS0 ?_
              rotate_left 1
              · rintro wS ⟨s0, s1, s2, s3, s4, s5⟩
                go_simp
                try with_reducible rfl
              simp only [Act.put, List.setIfInBounds_toArray, List.set_cons_zero, List.set_cons_succ]
              refine wpAnyH_takeD (i := 16) 49 (v := ?_) rfl rfl (by kernel_rfl) (by kernel_rfl) (by kernel_rfl) (fun _ _ _ h => h) (Or.inl ⟨by rfl, ?_⟩) hS0 ?_
              rotate_left 1
              · rintro wS ⟨s0, s1, s2, s3, s4, s5⟩
                go_simp
                try with_reducible rfl
              simp only [Act.put, List.setIfInBounds_toArray, List.set_cons_zero, List.set_cons_succ]
              refine wpAnyH_gen (fun a0 hA => ?_)
              have hsz : a0.tmps.size = 79 := by rw [← hA]; rfl
              have e49 : a0.eval (.tmp 49) = .agg #[.int .u32 x0, .int .u32 x1, .int .u32 x2, .int .u32 x3] := by rw [← hA]; rfl
              have p50 : ∀ v50 v13 x, ((a0.put (some 50) v50).put (some 13) v13).put (some 50) x = (a0.put (some 50) x).put (some 13) v13 := fun v50 v13 x => by rw [put_turn _ 13 50 _ _ (by decide), put_over]
              refine wpAnyH_inv (by kernel_rfl) (fun l a w => (∀ j, j < 17 → l j = true) ∧ ∃ (v50 v13 : Value) (M : List Res), a = (a0.put (some 50) v50).put (some 13) v13 ∧ (l 19 = true → l 18 = true) ∧ (l 17 = true → v50 = .agg #[.int .u32 z.a, .int .u32 z.b, .int .u32 z.c, .int .u32 z.d]) ∧
                ((l 18 = true ∧ ∃ g, v13 = .pointer (some ⟨g, 0, none⟩) ∧ M = [boxR g (if l 19 then #[.int .u32 z.a, .int .u32 z.b, .int .u32 z.c, .int .u32 z.d] else zeros4) 189]) ∨ (l 18 = false ∧ M = [])) ∧ Sp w0 F0 w (M ++ (boxR g12 #[.int .i64 p0, .int .i64 p1, .int .i64 p2, .int .i64 p3] 94 :: boxR g9 (row32 s) 185 :: boxR g10 placesV 187 :: boxR g8 (row32 f) 185 :: L))) ?_ ?_ _ _ _ _ (by kernel_rfl) (by kernel_rfl) ?_
              · rintro l a w i o ⟨hl17, v50, v13, M, rfl, h98, h7, h8, S⟩ ho hl hpre
                have hi : i = 17 ∨ i = 18 ∨ i = 19 := by
                  have h1 := (Array.getElem?_eq_some_iff.1 ho).1
                  simp at h1
                  have h2 : ¬ i < 17 := fun h => by rw [hl17 i h] at hl; cases hl
                  omega
                rcases hi with rfl | rfl | rfl
                · cases ho
                  refine ⟨rfl, ?_⟩
                  refine Oper.wp_mono (K := fun a2 w2 => a2 = ((a0.put (some 50) v50).put (some 13) v13).put (some 50) (.agg #[.int .u32 z.a, .int .u32 z.b, .int .u32 z.c, .int .u32 z.d]) ∧ Ext [] w w2) ?_ ?_
                  · rintro a2 w2 ⟨rfl, hx⟩
                    have S2 := S.ext0 hx
                    exact ⟨HF.out _ (Sp.drops M S2), fun j hj => by simp [hl17 j hj], _, v13, M, p50 _ _ _, by simpa using h98, fun _ => rfl, by simpa using h8, S2⟩
                  · have e : ((a0.put (some 50) v50).put (some 13) v13).eval (.tmp 49) = .agg #[.int .u32 x0, .int .u32 x1, .int .u32 x2, .int .u32 x3] := by rw [evalP_ne _ 13 49 _ (by decide), evalP_ne _ 50 49 _ (by decide), e49]
                    generalize (a0.put (some 50) v50).put (some 13) v13 = a1 at *
                    go_simp
                    rw [show a1.tmps[49]?.getD undef = .agg #[.int .u32 x0, .int .u32 x1, .int .u32 x2, .int .u32 x3] from by rw [← Array.getD_eq_getD_getElem?]; exact e]
                    refine (HST.out w).mono ?_
                    rintro e2 w7 ⟨rfl, hx⟩
                    exact ⟨rfl, hx⟩
                · cases ho
                  refine ⟨rfl, ?_⟩
                  refine Oper.wp_mono (K := fun a2 w2 => a2 = ((a0.put (some 50) v50).put (some 13) v13).put (some 13) (.pointer (some ⟨w.heap.size, 0, none⟩)) ∧ w2 = w.alloc (.cells zeros4 189)) ?_ ?_
                  · rintro a2 w2 ⟨rfl, rfl⟩
                    obtain rfl : M = [] := by
                      rcases h8 with ⟨h, _⟩ | ⟨_, h⟩
                      · rw [hl] at h; cases h
                      · exact h
                    have h9 : l 19 = false := by
                      cases h : l 19 with
                      | false => rfl
                      | true => rw [h98 h] at hl; cases hl
                    exact ⟨HF.out _ (S.new _), fun j hj => by simp [hl17 j hj], v50, _, [boxR w.heap.size zeros4 189], put_over _ _ _ _, by simp, by simpa using h7, .inl ⟨by simp, _, rfl, by simp [h9]⟩, S.box zeros4 189⟩
                  · generalize (a0.put (some 50) v50).put (some 13) v13 = a1 at *
                    go_simp
                · cases ho
                  refine ⟨rfl, ?_⟩
                  have hl18 : l 18 = true := hpre ⟨18, .data⟩ (by simp) rfl
                  have hl17b : l 17 = true := hpre ⟨17, .data⟩ (by simp) rfl
                  obtain rfl := h7 hl17b
                  rcases h8 with ⟨_, g, rfl, rfl⟩ | ⟨h, _⟩
                  · rw [hl, if_neg (by simp)] at S
                    have hb : w.heap[g]? = some (.cells zeros4 189 (0, 0)) := S.boxed
                    have S2 := S.setRow #[.int .u32 z.a, .int .u32 z.b, .int .u32 z.c, .int .u32 z.d]
                    refine wp_store_row 189 _ _ rfl g #[.int .u32 z.a, .int .u32 z.b, .int .u32 z.c, .int .u32 z.d] (by rw [evalP_same _ 13 _ (by rw [sizeP, hsz]; decide)]) (by rw [evalP_ne _ 13 50 _ (by decide), evalP_same _ 50 _ (by rw [hsz]; decide)]) 189 _ hb (by kernel_rfl) (by kernel_rfl) (by kernel_rfl) ?_
                    exact ⟨HF.out _ S2.drop, fun j hj => by simp [hl17 j hj], _, _, [boxR g #[.int .u32 z.a, .int .u32 z.b, .int .u32 z.c, .int .u32 z.d] 189], rfl, by simp [hl18], fun _ => rfl, .inl ⟨by simp [hl18], g, rfl, by simp⟩, S2⟩
                  · rw [hl18] at h; cases h
              · rintro l a w hl ⟨_, v50, v13, M, rfl, h98, h7, h8, S⟩
                have e17 := hl 17 (by decide)
                have e18 := hl 18 (by decide)
                have e19 := hl 19 (by decide)
                obtain rfl := h7 e17
                rcases h8 with ⟨_, g, rfl, rfl⟩ | ⟨h, _⟩
                · rw [e19, if_pos rfl] at S
                  rw [← hA]
                  simp only [Act.put, List.setIfInBounds_toArray, List.set_cons_zero, List.set_cons_succ]
                  go_wp2_with fail
                  go_meet
                  exact ⟨g, rfl, (Sp.pick [_, _, _, _] [2, 1, 0, 3] (by decide) (S))⟩
                · rw [e18] at h; cases h
              · refine ⟨fun j hj => ?_, a0.tmps.getD 50 undef, a0.tmps.getD 13 undef, [], ?_, by simp, by simp, .inr ⟨by rfl, rfl⟩, HS4.out.drew⟩
                · have : j = 0 ∨ j = 1 ∨ j = 2 ∨ j = 3 ∨ j = 4 ∨ j = 5 ∨ j = 6 ∨ j = 7 ∨ j = 8 ∨ j = 9 ∨ j = 10 ∨ j = 11 ∨ j = 12 ∨ j = 13 ∨ j = 14 ∨ j = 15 ∨ j = 16 := by omega
                  rcases this with rfl | rfl | rfl | rfl | rfl | rfl | rfl | rfl | rfl | rfl | rfl | rfl | rfl | rfl | rfl | rfl | rfl <;> rfl
                · rw [put_back a0 50 (by rw [hsz]; decide), put_back a0 13 (by rw [hsz]; decide)]
            case rest =>
              obtain ⟨g13, rfl, S⟩ := hcut
              have HS5 := Lib.hid S
              clear S HS4 HF HST
              go_wp2_with fail
              go_loopw [51] (fun i wp => ∃ q : Nat, i = .int .i64 q ∧ q ≤ 4 ∧ Sp w0 F0 wp (boxR g9 (row32 (laidUp s [p0, p1, p2, p3] z q)) 185 :: boxR g12 #[.int .i64 p0, .int .i64 p1, .int .i64 p2, .int .i64 p3] 94 :: boxR g13 #[.int .u32 z.a, .int .u32 z.b, .int .u32 z.c, .int .u32 z.d] 189 :: boxR g10 placesV 187 :: boxR g8 (row32 f) 185 :: L)) (fun i _ => 4 - (intOf i).toNat)
              case atStart => exact ⟨0, rfl, by decide, HS5.out⟩
              case round =>
                clear HS5
                obtain ⟨q, rfl, hq, S⟩ := hrel
                have HS6 := Lib.hid S
                have HLL : Hid ((laidUp s [p0, p1, p2, p3] z q).length = 16) := (laidUp_length _ _ _ _).trans HL3.out
                by_cases hlq : q < 4
                · have hlq' : (q : Int) < 4 := by omega
                  have cp := S.pull1.cell q
                  rw [four_at p0 p1 p2 p3 q hlq] at cp
                  have cz := S.pull2.cell q
                  rw [four_q z q hlq] at cz
                  have hpl := four_lt p0 p1 p2 p3 q h0 h1 h2 h3
                  have HUP : Hid ((laidUp s [p0, p1, p2, p3] z q).set ([p0, p1, p2, p3].getD q 0) (z.get q) = laidUp s [p0, p1, p2, p3] z (q + 1)) := rfl
                  have HP := Lib.hid (S.put32 ([p0, p1, p2, p3].getD q 0) (z.get q) _ HUP.out).drew
                  have cs := S.at32 (i := [p0, p1, p2, p3].getD q 0) (by rw [HLL.out]; exact hpl)
                  have fs := S.free ([p0, p1, p2, p3].getD q 0)
                  clear S HUP
                  generalize [p0, p1, p2, p3].getD q 0 = pq at *
                  generalize z.get q = zq at *
                  have hpl' : (pq : Int) < 16 := by omega
                  go_wp2_with fail
                  go_region
                  all_goals
                    go_wp2_with fail
                    go_roundw
                    case rel => exact ⟨q + 1, by go_num, by omega, HP.out⟩
                    case measure => simp [intOf]; omega
                · obtain rfl : q = 4 := by omega
                  rw [HE3.out] at HS6
                  go_wp2_with fail
                  refine ⟨⟨m + 1, by go_num, by omega, (Sp.pick [_, _, _, _, _] [0, 3, 4] (by decide) (HS6.out))⟩, by simp [intOf]; omega⟩
          · obtain rfl : m = 8 := by omega
            rw [HE.out] at HS3
            go_wp2_with fail
            exact ⟨⟨k + 1, by go_num, by omega, HS3.out⟩, by simp [intOf]; omega⟩
      · have hlt' : ¬ (k : Int) < 10 := by omega
        have hk10 : k = 10 := by omega
        have HKE : Hid (roundUp f k = roundUp f 10) := by unfold Hid; rw [hk10]
        rw [HKE.out] at HS HL
        have HB0 := Lib.hid (HS.out.bldNewX 65)
        clear HS hk10 HKE HU
        generalize roundUp f 10 = r at *
        go_wp2_with fail
        generalize (wr.alloc _) = w5 at *
        generalize wr.heap.size = g15 at *
        go_loopw [64] (fun i wp => ∃ q : Nat, i = .int .i64 q ∧ q ≤ 16 ∧ Sp w0 F0 wp (bldX 65 g15 (blkUp r f q) :: boxR g9 (row32 r) 185 :: boxR g10 placesV 187 :: boxR g8 (row32 f) 185 :: L)) (fun i _ => 16 - (intOf i).toNat)
        case atStart => exact ⟨0, rfl, by decide, HB0.out⟩
        case round =>
          clear HB0
          obtain ⟨q, rfl, hq, S⟩ := hrel
          have HS := Lib.hid S
          have HBL := Lib.hid (blkUp_length r f q)
          clear S
          by_cases hlq : q < 16
          · have hlq' : (q : Int) < 16 := by omega
            have HE : Hid (blkUp r f q ++ lowBs (add32 (r.getD q 0) (f.getD q 0)) 4 = blkUp r f (q + 1)) := rfl
            have HC1 : Hid (∀ W bb, Sp w0 F0 W (bldX 65 g15 bb :: boxR g9 (row32 r) 185 :: boxR g10 placesV 187 :: boxR g8 (row32 f) 185 :: L) → W.cell? ⟨g9, q, none⟩ = some (.int .u32 (r.getD q 0 : Nat)) ∧ W.cell? ⟨g8, q, none⟩ = some (.int .u32 (f.getD q 0 : Nat))) := fun W bb S => ⟨S.pull1.at32 (by rw [HL.out]; exact hlq), S.pull3.at32 (by rw [HFL.out]; exact hlq)⟩
            have HAD := Lib.hid (add_32 (r.getD q 0) (f.getD q 0))
            generalize r.getD q 0 = x at *
            generalize f.getD q 0 = y at *
            have HLO := Lib.hid (fun W => octLow_any (add32 x y) 4 W (by decide))
            have HLW := Lib.hid (lowB_length 4 (add32 x y))
            have hadd : IntKind.u64.wrap (IntKind.u32.wrap ((x : Int) + y)) = (add32 x y : Int) := by
              rw [IntKind.wrap_u32, HAD.out, IntKind.wrap_u64]
              have := add32_lt x y
              omega
            have hadd2 : IntKind.u64.wrap (((x : Int) + y) % 4294967296) = (add32 x y : Int) := by rw [← IntKind.wrap_u32]; exact hadd
            generalize blkUp r f q = bu at *
            go_wp2_with fail
            refine wp_region_chainG [0, 1, 2, 3, 4, 5, 6, 7, 8, 9] (fun c => c == 8 || c == 9) (fun c => false) (T := fun wx => wx.cell? ⟨g9, q, none⟩ = some (.int .u32 x) ∧ wx.cell? ⟨g8, q, none⟩ = some (.int .u32 y)) (S := fun wx => Sp w0 F0 wx (bldX 65 g15 bu :: boxR g9 (row32 r) 185 :: boxR g10 placesV 187 :: boxR g8 (row32 f) 185 :: L)) (by kernel_rfl) (by kernel_rfl) (by kernel_rfl) HS.out.drew (fun x h => HC1.out x _ h) ?_
            repeat
              refine Exists.intro _ (And.intro rfl (Or.inl (Exists.intro ?_ (And.intro (fun wS hS K hK => ?_) (And.intro ?_ ?_)))))
              rotate_left 1
              · obtain ⟨t0, t1⟩ := hS
                first
                  | (refine if_unwanted rfl ?_; simp only [Act.put, List.setIfInBounds_toArray, List.set_cons_zero, List.set_cons_succ]; exact hK.out)
                  | (refine if_wanted rfl ?_; go_simp; exact hK.out)
              · rfl
            refine ChainG.one rfl rfl rfl (fun wS hS R hR => ?_)
            go_simp
            go_at_call 176
            refine (Calls.spA (HLO.out wS) hS).mono ?_
            rintro e w7 ⟨rfl, S7⟩
            refine hR.out _ _ rfl (fun wx => wx.cell? ⟨g9, q, none⟩ = some (.int .u32 x) ∧ wx.cell? ⟨g8, q, none⟩ = some (.int .u32 y)) (fun wx => Sp w0 F0 wx (bldX 65 g15 bu :: boxR g9 (row32 r) 185 :: boxR g10 placesV 187 :: boxR g8 (row32 f) 185 :: L)) S7 (fun x h => HC1.out x _ h) (fun _ h => h) ?_
            clear hR hS S7
            repeat
              refine Exists.intro _ (And.intro rfl (Or.inl (Exists.intro ?_ (And.intro (fun wS hS K hK => ?_) (And.intro ?_ ?_)))))
              rotate_left 1
              · obtain ⟨t0, t1⟩ := hS
                first
                  | (refine if_unwanted rfl ?_; simp only [Act.put, List.setIfInBounds_toArray, List.set_cons_zero, List.set_cons_succ]; exact hK.out)
                  | (refine if_wanted rfl ?_; go_simp; exact hK.out)
              · rfl
            refine ChainG.one rfl rfl rfl (fun wS hS R hR => ?_)
            go_simp
            go_at_call 67
            refine (writeStrX (lowBs (add32 x y) 4) hS (by rw [HLW.out, HBL.out]; omega)).mono ?_
            rintro e w7 ⟨rfl, S7⟩
            refine hR.out _ _ rfl (fun wx => wx.cell? ⟨g9, q, none⟩ = some (.int .u32 x) ∧ wx.cell? ⟨g8, q, none⟩ = some (.int .u32 y)) (fun wx => Sp w0 F0 wx (bldX 65 g15 (bu ++ lowBs (add32 x y) 4) :: boxR g9 (row32 r) 185 :: boxR g10 placesV 187 :: boxR g8 (row32 f) 185 :: L)) S7 (fun x h => HC1.out x _ h) (fun _ h => h) ?_
            clear hR hS S7
            repeat
              refine Exists.intro _ (And.intro rfl (Or.inl (Exists.intro ?_ (And.intro (fun wS hS K hK => ?_) (And.intro ?_ ?_)))))
              rotate_left 1
              · obtain ⟨t0, t1⟩ := hS
                first
                  | (refine if_unwanted rfl ?_; simp only [Act.put, List.setIfInBounds_toArray, List.set_cons_zero, List.set_cons_succ]; exact hK.out)
                  | (refine if_wanted rfl ?_; go_simp; exact hK.out)
              · rfl
            intro wE hE
            have HSE := Lib.hid hE
            clear hE
            rw [HE.out] at HSE
            go_wp2_with fail
            exact ⟨⟨q + 1, by go_num, by omega, HSE.out⟩, by simp [intOf]; omega⟩
          · obtain rfl : q = 16 := by omega
            have HN : Hid (blkUp r f 16 ≠ []) := fun h => by have := HBL.out; rw [h] at this; simp at this
            rw [← HBK.out] at HS HN
            go_wp2_with fail
            refine (stringX HS.out HN.out).mono ?_
            rintro e w6 ⟨rfl, S⟩
            have HSN := Lib.hid S
            clear S HS
            go_wp2_with fail
            go_ret2
            exact ⟨rfl, (Sp.pick [_, _, _] [] (by decide) (HSN.out))⟩
end
end Go.Proofs.YtkenacggjffjnaaGreatDoor
