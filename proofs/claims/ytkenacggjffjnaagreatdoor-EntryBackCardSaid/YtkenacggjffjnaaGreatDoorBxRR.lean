/- chacha: Stream, Turn. Conditions: a key of 32 bytes, a nonce of 12, a counter below 2^32; at most 65536 bytes. aead: Once, joined, Covered, tag, Seal, Open; octet.Fill, Same. Conditions: a key of 32 bytes, a nonce of 12; the lengths fit. aead.Seal, Open; a real box. Conditions: a key of 32 bytes, a nonce of 12. -/
import Derived.Test.YtkenacggjffjnaaGreatDoorChK
import Derived.Test.YtkenacggjffjnaaGreatDoorPoly
import Derived.Deep.LoopGhost
import Derived.Test.YtkenacggjffjnaaGreatDoorEnF
import Derived.Test.YtkenacggjffjnaaGreatDoorOcY
/-! ChT -/
set_option linter.unusedSimpArgs false
set_option linter.unusedVariables false
set_option linter.unnecessarySimpa false
namespace Go.Proofs.YtkenacggjffjnaaGreatDoor
open Go.RowKit

/-- The cipher that the code is. -/
def chC : Cipher := ⟨blkB, polyTag, blkB_length, polyTag_length⟩
section
variable {w0 w : World} {F0 : List Nat} {L : List Res} {v : Value}
theorem chBlockC (key nonce : Bs) (n : Nat) (hk : key.length = 32) (hz : nonce.length = 12) (hn : n < 4294967296) (S : Sp w0 F0 w L) : Calls Tryz.prog 158 #[.string ⟨key.toArray⟩, .int .u32 n, .string ⟨nonce.toArray⟩] w fun e w2 => e = .returned (.tuple #[.string ⟨(chC.blk key n nonce).toArray⟩, .int .i64 0]) ∧ Sp w0 F0 w2 L := chBlock key nonce n hk hz hn S
theorem inc_32 (n : Nat) : IntKind.u32.wrap ((n : Int) + 1) = (((n + 1) % 4294967296 : Nat) : Int) := by
  rw [IntKind.wrap_u32]
  omega
set_option maxRecDepth 100000 in
set_option maxHeartbeats 2000000 in
theorem chStream (key nonce : Bs) (c n : Nat) (hk : key.length = 32) (hz : nonce.length = 12) (hc : c < 4294967296) (hn : n ≤ 65536) (S : Sp w0 F0 w L) :
    Calls Tryz.prog 138 #[.string ⟨key.toArray⟩, .int .u32 c, .string ⟨nonce.toArray⟩, .int .i64 n] w fun e w2 => e = .returned (.tuple #[.string ⟨(chC.streamAt key nonce c n).toArray⟩, .int .i64 0]) ∧ Sp w0 F0 w2 L := by
  have HMAY := Lib.hid (chMay key nonce hk hz w)
  have HK := Lib.hid hk
  have HZ := Lib.hid hz
  have hn' : (n : Int) ≤ 65536 := by omega
  have hn0' : ¬ (n : Int) < 0 := by omega
  have HNN := Lib.hid hn
  have HST : Hid (chC.streamAt key nonce c n = (chC.blocks key nonce ((n + 63) / 64) c).take n) := rfl
  have HCB := Lib.hid (fun k W (hk2 : k < 4294967296) (L' : List Res) (S' : Sp w0 F0 W L') => chBlockC key nonce k hk hz hk2 S')
  have HSN := Lib.hid (chC.blocks_snoc key nonce)
  have HBN := Lib.hid (chC.blocks_length key nonce)
  have HBL := Lib.hid chC.blen
  generalize chC = ch at *
  by_cases h0 : n = 0
  · have HS0 := Lib.hid (S.box #[.pointer none, .slice none 0 0] 65)
    have HE : Hid (ch.streamAt key nonce c n = []) := by unfold Hid; rw [HST.out, h0]; simp
    clear S hk hz
    subst h0
    go_enter Tryz.func138, Tryz.ntmps138
    go_wp2_with fail
    refine HMAY.out.mono ?_
    rintro e w2 ⟨rfl, rfl⟩
    go_wp2_with fail
    generalize (w2.alloc _) = w3 at *
    generalize w2.heap.size = g at *
    go_loopg [1] 1 (fun gg v1 wr => gg = 1 ∧ Sp w0 F0 wr (boxR g #[.pointer none, .slice none 0 0] 65 :: L))
    case atStart => exact ⟨rfl, HS0.out⟩
    case round =>
      clear HS0
      obtain ⟨_, S⟩ := hrel
      have HS := Lib.hid S
      clear S
      go_wp2_with fail
      refine (lenNil HS.out).mono ?_
      rintro e w4 ⟨rfl, S⟩
      have HS2 := Lib.hid S
      clear S HS
      go_wp2_with fail
      refine (stringNil HS2.out).mono ?_
      rintro e w5 ⟨rfl, S⟩
      have HS3 := Lib.hid S
      clear S HS2
      go_wp2_with fail
      go_ret2
      exact ⟨by rw [HE.out]; rfl, HS3.out⟩
  · have HS0 := Lib.hid (S.bldNewX 65)
    have HN0 := Lib.hid (Nat.pos_of_ne_zero h0)
    have HC0 := Lib.hid hc
    clear S hk hz h0 hc hn
    go_enter Tryz.func138, Tryz.ntmps138
    go_wp2_with fail
    refine HMAY.out.mono ?_
    rintro e w2 ⟨rfl, rfl⟩
    go_wp2_with fail
    generalize (w2.alloc _) = w3 at *
    generalize w2.heap.size = g at *
    go_loopg [1] (n + 64) (fun gg v1 wr => ∃ m : Nat, v1 = .int .u32 (((c + m) % 4294967296 : Nat) : Int) ∧ gg + 64 * m = n + 64 ∧ (m = 0 ∨ 64 * (m - 1) < n) ∧ Sp w0 F0 wr (bldX 65 g (ch.blocks key nonce m c) :: L))
    case atStart => exact ⟨0, by rw [Nat.add_zero, Nat.mod_eq_of_lt HC0.out], rfl, .inl rfl, HS0.out⟩
    case round =>
      clear HS0
      obtain ⟨m, rfl, hg, hm, S⟩ := hrel
      have HS := Lib.hid S
      have HG := Lib.hid hg
      have HM := Lib.hid hm
      have HLM := Lib.hid (HBN.out m c)
      clear S hg hm
      go_wp2_with fail
      refine (lenX HS.out).mono ?_
      rintro e w4 ⟨rfl, S⟩
      have HS2 := Lib.hid S
      rw [HLM.out]
      clear S HS
      by_cases hlt : 64 * m < n
      · have hlt' : 64 * (m : Int) < n := by omega
        have HLT := Lib.hid hlt
        have HC1 := Lib.hid (HCB.out ((c + m) % 4294967296) w4 (Nat.mod_lt _ (by decide)) _ HS2.out)
        have HS3 := Lib.hid (HSN.out m c)
        have HI : Hid (IntKind.u32.wrap ((((c + m) % 4294967296 : Nat) : Int) + 1) = (((c + (m + 1)) % 4294967296 : Nat) : Int)) := by
          unfold Hid
          rw [inc_32]
          omega
        have HB1 := Lib.hid (HBL.out key ((c + m) % 4294967296) nonce)
        generalize (c + m) % 4294967296 = cm at *
        generalize hcm1 : (c + (m + 1)) % 4294967296 = cm1 at *
        have HCM := Lib.hid hcm1
        clear hcm1
        generalize ch.blk key cm nonce = bk at *
        clear hlt
        go_wp2_with fail
        refine HC1.out.mono ?_
        rintro e w5 ⟨rfl, S⟩
        have HS4 := Lib.hid S
        clear S HS2 HC1
        go_wp2_with fail
        refine (writeStrX bk HS4.out (by rw [HLM.out, HB1.out]; have := HLT.out; have := HNN.out; omega)).mono ?_
        rintro e w6 ⟨rfl, S⟩
        rw [← HS3.out] at S
        have HS5 := Lib.hid S
        clear S HS4
        have hi : ∀ z : Int, z = IntKind.u32.wrap ((cm : Int) + 1) → z = cm1 := fun z h => h.trans HI.out
        go_wp2_with fail
        go_roundg (gk - 64)
        case measure => have := HG.out; have := HLT.out; omega
        case rel => exact ⟨m + 1, by rw [HCM.out], by have := HG.out; have := HLT.out; omega, .inr (by have := HLT.out; rw [Nat.add_sub_cancel]; exact this), HS5.out⟩
      · have hlt' : ¬ 64 * (m : Int) < n := by omega
        have hm63 : m = (n + 63) / 64 := by have := HM.out; have := HN0.out; omega
        have HMM := Lib.hid hm63
        have HNE : Hid (ch.blocks key nonce m c ≠ []) := fun h => by
          have h1 := HLM.out
          rw [h] at h1
          have := HN0.out
          simp at h1
          omega
        rw [← HMM.out] at HST
        have hcut := cut_head (ch.blocks key nonce m c) n
        have hle : (n : Int) ≤ (ch.blocks key nonce m c).length := by rw [HLM.out]; omega
        clear hm63 hlt
        generalize ch.blocks key nonce m c = bl at *
        go_wp2_with fail
        refine (stringX HS2.out HNE.out).mono ?_
        rintro e w5 ⟨rfl, S⟩
        have HS3 := Lib.hid S
        clear S HS2
        go_wp2_with fail
        go_ret2
        exact ⟨by rw [HST.out]; rfl, HS3.out⟩
set_option maxRecDepth 100000 in
set_option maxHeartbeats 2000000 in
theorem chTurn (key nonce t : Bs) (c : Nat) (hk : key.length = 32) (hz : nonce.length = 12) (hc : c < 4294967296) (ht : t.length ≤ 65536) (S : Sp w0 F0 w L) :
    Calls Tryz.prog 117 #[.string ⟨key.toArray⟩, .int .u32 c, .string ⟨nonce.toArray⟩, .string ⟨t.toArray⟩] w fun e w2 => e = .returned (.tuple #[.string ⟨(xorB t (chC.streamAt key nonce c t.length)).toArray⟩, .int .i64 0]) ∧ Sp w0 F0 w2 L := by
  have HC := Lib.hid (chStream key nonce c t.length hk hz hc ht S)
  have HL := Lib.hid (chC.streamAt_length key nonce c t.length)
  have HT := Lib.hid ht
  have ht' : (t.length : Int) ≤ 65536 := by omega
  generalize chC.streamAt key nonce c t.length = st at *
  clear S hk hz hc ht
  go_enter Tryz.func117, Tryz.ntmps117
  go_wp2_with fail
  refine HC.out.mono ?_
  rintro e w2 ⟨rfl, S⟩
  have HS := Lib.hid S
  clear S HC
  go_wp2_with fail
  refine (octXorS t st HL.out.symm (by have := HT.out; omega) HS.out).mono ?_
  rintro e w3 ⟨rfl, S⟩
  have HS2 := Lib.hid S
  clear S HS
  go_wp2_with fail
  go_ret2
  exact ⟨rfl, HS2.out⟩
end
end Go.Proofs.YtkenacggjffjnaaGreatDoor

/-! AeW -/
namespace Go.Proofs.YtkenacggjffjnaaGreatDoor
open Go.RowKit

section
variable {w0 w : World} {F0 : List Nat} {L : List Res} {v : Value}
set_option maxRecDepth 100000 in
set_option maxHeartbeats 2000000 in
theorem aeOnce (key nonce : Bs) (hk : key.length = 32) (hz : nonce.length = 12) (S : Sp w0 F0 w L) :
    Calls Tryz.prog 140 #[.string ⟨key.toArray⟩, .string ⟨nonce.toArray⟩] w fun e w2 => e = .returned (.tuple #[.string ⟨((chC.blk key 0 nonce).take 32).toArray⟩, .int .i64 0]) ∧ Sp w0 F0 w2 L := by
  have HC := Lib.hid (chBlockC key nonce 0 hk hz (by decide) S)
  have HL := Lib.hid (chC.blen key 0 nonce)
  generalize chC.blk key 0 nonce = b at *
  have hcut := cut_head b 32
  have hl : (b.length : Int) = 64 := by have := HL.out; omega
  clear S hk hz
  go_enter Tryz.func140, Tryz.ntmps140
  go_wp2_with fail
  refine HC.out.mono ?_
  rintro e w2 ⟨rfl, S⟩
  have HS := Lib.hid S
  clear S HC
  go_wp2_with fail
  go_ret2
  exact ⟨rfl, HS.out⟩
theorem low8_eq : ∀ (k n : Nat), low8 k n = lowBs n k
  | 0, _ => rfl
  | k + 1, n => by rw [low8, lowBs, low8_eq k]
theorem fill16_len (s : Bs) : (fill16 s).length ≤ s.length + 16 := by
  unfold fill16
  split
  · omega
  · rw [List.length_append, List.length_replicate]
    omega
set_option maxRecDepth 100000 in
set_option maxHeartbeats 2000000 in
theorem octFill16 (s : Bs) (hs : s.length ≤ 100000000) (S : Sp w0 F0 w L) :
    Calls Tryz.prog 59 #[.string ⟨s.toArray⟩, .int .i64 16] w fun e w2 => e = .returned (.string ⟨(fill16 s).toArray⟩) ∧ Sp w0 F0 w2 L := by
  have HF : Hid (fill16 s = if s.length % 16 = 0 then s else s ++ List.replicate (16 - s.length % 16) 0) := rfl
  have HS := Lib.hid S
  have hs' : (s.length : Int) ≤ 100000000 := by omega
  clear S
  by_cases h : s.length % 16 = 0
  · have h' : (s.length : Int) % 16 = 0 := by omega
    have HF2 := Lib.hid (HF.out.trans (if_pos h))
    clear h HF
    go_enter Tryz.func59, Tryz.ntmps59
    go_wp2_with fail
    go_ret
    exact ⟨by rw [HF2.out]; rfl, HS.out⟩
  · have h' : ¬ (s.length : Int) % 16 = 0 := by omega
    have HF2 : Hid (fill16 s = s ++ zeros (16 - s.length % 16)) := HF.out.trans (if_neg h)
    have HC : Hid ((16 : Int) - (s.length : Int) % 16 = ((16 - s.length % 16 : Nat) : Int)) := by unfold Hid; omega
    have HN : Hid (16 - s.length % 16 ≤ 1000000) := by unfold Hid; omega
    have hadd := add_str s (zeros (16 - s.length % 16)) (by simp [zeros, maxLen]; omega)
    clear h HF hs
    go_enter Tryz.func59, Tryz.ntmps59
    go_wp2_with fail
    refine (repeatZ _ _ HC.out HN.out HS.out).mono ?_
    rintro e w2 ⟨rfl, S⟩
    have HS2 := Lib.hid S
    clear S HS
    go_wp2_with fail
    go_ret
    exact ⟨by rw [HF2.out]; rfl, HS2.out⟩
set_option maxRecDepth 100000 in
set_option maxHeartbeats 4000000 in
theorem aeJoined (d s : Bs) (g : Nat) (hd : d.length ≤ 1000000) (hs : s.length ≤ 1000000) (S : Sp w0 F0 w (boxR g #[.string ⟨d.toArray⟩, .string ⟨s.toArray⟩] 9 :: L)) :
    Calls Tryz.prog 162 #[.slice (some ⟨g, 0, none⟩) 2 2] w fun e w2 => e = .returned (.string ⟨(covered d s).toArray⟩) ∧ Sp w0 F0 w2 L := by
  have HD := Lib.hid hd
  have HSS := Lib.hid hs
  have HFD := Lib.hid (fill16_len d)
  have HFS := Lib.hid (fill16_len s)
  have HCV : Hid (covered d s = fill16 d ++ fill16 s ++ lowBs d.length 8 ++ lowBs s.length 8) := by
    unfold Hid covered
    rw [low8_eq, low8_eq]
  have HS0 := Lib.hid (S.bldNewX 65)
  have HL1 := Lib.hid (lowB_length 8 d.length)
  have HL2 := Lib.hid (lowB_length 8 s.length)
  clear S hd hs
  go_enter Tryz.func162, Tryz.ntmps162
  go_wp2_with fail
  generalize (w.alloc _) = w1 at *
  generalize w.heap.size = gb at *
  go_loopw [10] (fun i wr => ∃ k : Nat, i = .int .i64 k ∧ k ≤ 2 ∧ Sp w0 F0 wr (bldX 65 gb (([[], fill16 d, fill16 d ++ fill16 s] : List Bs).getD k []) :: boxR g #[.string ⟨d.toArray⟩, .string ⟨s.toArray⟩] 9 :: L)) (fun i _ => 2 - (intOf i).toNat)
  case atStart => exact ⟨0, rfl, by decide, HS0.out⟩
  case round =>
    clear HS0
    obtain ⟨k, rfl, hk, S⟩ := hrel
    have HS := Lib.hid S
    have c := S.pull1.cell
    clear S
    have hk3 : k = 0 ∨ k = 1 ∨ k = 2 := by omega
    rcases hk3 with rfl | rfl | hk2
    · go_wp2_with fail
      refine (octFill16 d (by have := HD.out; omega) HS.out).mono ?_
      rintro e w2 ⟨rfl, S⟩
      have HS2 := Lib.hid S
      clear S HS c
      go_wp2_with fail
      refine (writeStrX (fill16 d) HS2.out (by have := HD.out; have := HFD.out; simp; omega)).mono ?_
      rintro e w3 ⟨rfl, S⟩
      have HS3 := Lib.hid S
      clear S HS2
      go_wp2_with fail
      exact ⟨⟨1, rfl, by decide, HS3.out⟩, by simp [intOf]⟩
    · go_wp2_with fail
      refine (octFill16 s (by have := HSS.out; omega) HS.out).mono ?_
      rintro e w2 ⟨rfl, S⟩
      have HS2 := Lib.hid S
      clear S HS c
      go_wp2_with fail
      refine (writeStrX (fill16 s) HS2.out (by have := HD.out; have := HFD.out; have := HSS.out; have := HFS.out; simp; omega)).mono ?_
      rintro e w3 ⟨rfl, S⟩
      have HS3 := Lib.hid S
      clear S HS2
      go_wp2_with fail
      exact ⟨⟨2, rfl, by decide, HS3.out⟩, by simp [intOf]⟩
    · clear c
      have hlt' : ¬ (k : Int) < 2 := by omega
      rw [hk2] at HS
      clear hk2 hk
      go_wp2_with fail
      go_loopw [20] (fun i wr => ∃ k : Nat, i = .int .i64 k ∧ k ≤ 2 ∧ Sp w0 F0 wr (bldX 65 gb (([fill16 d ++ fill16 s, fill16 d ++ fill16 s ++ lowBs d.length 8, fill16 d ++ fill16 s ++ lowBs d.length 8 ++ lowBs s.length 8] : List Bs).getD k []) :: boxR g #[.string ⟨d.toArray⟩, .string ⟨s.toArray⟩] 9 :: L)) (fun i _ => 2 - (intOf i).toNat)
      case atStart => exact ⟨0, rfl, by decide, HS.out⟩
      case round =>
        clear HS
        obtain ⟨k, rfl, hk, S⟩ := hrel
        have HS := Lib.hid S
        have c := S.pull1.cell
        clear S
        have hk3 : k = 0 ∨ k = 1 ∨ k = 2 := by omega
        rcases hk3 with rfl | rfl | hk2
        · have hw : IntKind.u64.wrap (d.length : Int) = d.length := by rw [IntKind.wrap_u64]; have := HD.out; omega
          go_wp2_with fail
          refine (Calls.spA (octLow_any d.length 8 _ (by decide)) HS.out).mono ?_
          rintro e w2 ⟨rfl, S⟩
          have HS2 := Lib.hid S
          clear S HS c
          go_wp2_with fail
          refine (writeStrX (lowBs d.length 8) HS2.out (by have := HD.out; have := HFD.out; have := HSS.out; have := HFS.out; have := HL1.out; simp; omega)).mono ?_
          rintro e w3 ⟨rfl, S⟩
          have HS3 := Lib.hid S
          clear S HS2
          go_wp2_with fail
          exact ⟨⟨1, rfl, by decide, HS3.out⟩, by simp [intOf]⟩
        · have hw : IntKind.u64.wrap (s.length : Int) = s.length := by rw [IntKind.wrap_u64]; have := HSS.out; omega
          go_wp2_with fail
          refine (Calls.spA (octLow_any s.length 8 _ (by decide)) HS.out).mono ?_
          rintro e w2 ⟨rfl, S⟩
          have HS2 := Lib.hid S
          clear S HS c
          go_wp2_with fail
          refine (writeStrX (lowBs s.length 8) HS2.out (by have := HD.out; have := HFD.out; have := HSS.out; have := HFS.out; have := HL1.out; have := HL2.out; simp; omega)).mono ?_
          rintro e w3 ⟨rfl, S⟩
          have HS3 := Lib.hid S
          clear S HS2
          go_wp2_with fail
          exact ⟨⟨2, rfl, by decide, HS3.out⟩, by simp [intOf]⟩
        · clear c
          have hlt2' : ¬ (k : Int) < 2 := by omega
          rw [hk2] at HS
          have HNE : Hid (covered d s ≠ []) := fun h => by
            have h1 := HL2.out
            rw [HCV.out] at h
            have h2 := congrArg List.length h
            rw [List.length_append, h1, List.length_nil] at h2
            omega
          have HS3 : Hid (Sp w0 F0 wr (bldX 65 gb (covered d s) :: boxR g #[.string ⟨d.toArray⟩, .string ⟨s.toArray⟩] 9 :: L)) := by
            unfold Hid
            rw [HCV.out]
            exact HS.out
          clear HS hk2
          go_wp2_with fail
          refine (stringX HS3.out HNE.out).mono ?_
          rintro e w2 ⟨rfl, S⟩
          have HSN := Lib.hid S.drop
          clear S HS3
          go_wp2_with fail
          go_ret
          exact ⟨rfl, HSN.out⟩
set_option maxRecDepth 100000 in
set_option maxHeartbeats 2000000 in
theorem aeCovered (d s : Bs) (hd : d.length ≤ 1000000) (hs : s.length ≤ 1000000) (S : Sp w0 F0 w L) :
    Calls Tryz.prog 142 #[.string ⟨d.toArray⟩, .string ⟨s.toArray⟩] w fun e w2 => e = .returned (.string ⟨(covered d s).toArray⟩) ∧ Sp w0 F0 w2 L := by
  have HS := Lib.hid (S.box #[.string ⟨d.toArray⟩, .string ⟨s.toArray⟩] 9)
  have HD := Lib.hid hd
  have HSS := Lib.hid hs
  clear S hd hs
  go_enter Tryz.func142, Tryz.ntmps142
  go_wp2_with fail
  refine (aeJoined d s _ HD.out HSS.out HS.out).mono ?_
  rintro e w2 ⟨rfl, S⟩
  have HS2 := Lib.hid S
  clear S HS
  go_wp2_with fail
  go_ret
  exact ⟨rfl, HS2.out⟩
set_option maxRecDepth 100000 in
set_option maxHeartbeats 2000000 in
theorem aeTag (key nonce d s : Bs) (hk : key.length = 32) (hz : nonce.length = 12) (hd : d.length ≤ 100000) (hs : s.length ≤ 100000) (S : Sp w0 F0 w L) :
    Calls Tryz.prog 118 #[.string ⟨key.toArray⟩, .string ⟨nonce.toArray⟩, .string ⟨d.toArray⟩, .string ⟨s.toArray⟩] w fun e w2 => e = .returned (.tuple #[.string ⟨(chC.tagOf key nonce d s).toArray⟩, .int .i64 0]) ∧ Sp w0 F0 w2 L := by
  have HT : Hid (chC.tagOf key nonce d s = polyTag ((chC.blk key 0 nonce).take 32) (covered d s)) := rfl
  have HO := Lib.hid (aeOnce key nonce hk hz S)
  have HKL : Hid (((chC.blk key 0 nonce).take 32).length = 32) := by unfold Hid; rw [List.length_take, chC.blen]; rfl
  have HCL : Hid ((covered d s).length ≤ 1000000) := by
    have h1 := fill16_len d
    have h2 := fill16_len s
    have h3 := lowB_length 8 d.length
    have h4 := lowB_length 8 s.length
    unfold Hid covered
    rw [low8_eq, low8_eq]
    simp
    omega
  have HC := Lib.hid (fun (W : World) (S' : Sp w0 F0 W L) => aeCovered d s (by omega) (by omega) S')
  generalize (chC.blk key 0 nonce).take 32 = ok at *
  generalize chC.tagOf key nonce d s = tg at *
  clear S hk hz hd hs
  go_enter Tryz.func118, Tryz.ntmps118
  go_wp2_with fail
  refine HO.out.mono ?_
  rintro e w2 ⟨rfl, S⟩
  have HS2 := Lib.hid S
  clear S HO
  go_wp2_with fail
  refine (HC.out _ HS2.out).mono ?_
  rintro e w3 ⟨rfl, S⟩
  have HS3 := Lib.hid S
  clear S HS2
  generalize covered d s = cv at *
  go_wp2_with fail
  refine (poTag ok cv HKL.out HCL.out HS3.out).mono ?_
  rintro e w4 ⟨rfl, S⟩
  have HS4 := Lib.hid S
  clear S HS3
  go_wp2_with fail
  go_ret2
  exact ⟨by rw [HT.out]; rfl, HS4.out⟩
end
end Go.Proofs.YtkenacggjffjnaaGreatDoor

/-! BxR -/
namespace Go.Proofs.YtkenacggjffjnaaGreatDoor
open Go.RowKit

/-- What a real box seals to, and opens to. -/
def rlSeal (k n d t : Bs) : Bs × Int := if d.length ≤ 4096 ∧ t.length ≤ 16384 then (chC.shut k n d t, 0) else ([], 5)
def rlOpen (k n d s : Bs) : Bs × Int := if d.length ≤ 4096 ∧ 16 ≤ s.length ∧ s.length ≤ 16400 then (match chC.open k n d s with | some t => (t, 0) | none => ([], 20)) else ([], 5)
theorem rl_back (k n d t : Bs) (hd : d.length ≤ 4096) (ht : t.length ≤ 16384) : (rlSeal k n d t).2 = 0 ∧ rlOpen k n d (rlSeal k n d t).1 = (t, 0) := by
  unfold rlSeal
  rw [if_pos ⟨hd, ht⟩]
  refine ⟨rfl, ?_⟩
  unfold rlOpen
  rw [if_pos ⟨hd, by rw [chC.shut_length]; omega, by rw [chC.shut_length]; omega⟩, chC.open_shut]
section
variable {w0 w : World} {F0 : List Nat} {L : List Res} {v : Value} {b : Nat}
set_option maxRecDepth 100000 in
set_option maxHeartbeats 2000000 in
theorem aeSeal (k n d t : Bs) (hk : k.length = 32) (hz : n.length = 12) (S : Sp w0 F0 w L) :
    Calls Tryz.prog 92 #[.string ⟨k.toArray⟩, .string ⟨n.toArray⟩, .string ⟨d.toArray⟩, .string ⟨t.toArray⟩] w fun e w2 => e = .returned (.tuple #[.string ⟨(rlSeal k n d t).1.toArray⟩, .int .i64 (rlSeal k n d t).2]) ∧ Sp w0 F0 w2 L := by
  have HS := Lib.hid S
  by_cases h : d.length ≤ 4096 ∧ t.length ≤ 16384
  · have HR : Hid (rlSeal k n d t = (chC.shut k n d t, 0)) := if_pos h
    obtain ⟨h1, h2⟩ := h
    have h1' : (d.length : Int) ≤ 4096 := by omega
    have h2' : (t.length : Int) ≤ 16384 := by omega
    have HT := Lib.hid (chTurn k n t 1 hk hz (by decide) (by omega) S)
    have HXL : Hid ((xorB t (chC.streamAt k n 1 t.length)).length = t.length) := xorB_length _ _ (by rw [chC.streamAt_length]; exact Nat.le_refl _)
    have HG := Lib.hid (fun (W : World) (S' : Sp w0 F0 W L) => aeTag k n d (xorB t (chC.streamAt k n 1 t.length)) hk hz (by omega) (by rw [HXL.out]; omega) S')
    have HSH : Hid (chC.shut k n d t = xorB t (chC.streamAt k n 1 t.length) ++ chC.tagOf k n d (xorB t (chC.streamAt k n 1 t.length))) := rfl
    have HTL := Lib.hid (chC.tlen ((chC.blk k 0 n).take 32) (covered d (xorB t (chC.streamAt k n 1 t.length))))
    have HTG : Hid ((chC.tagOf k n d (xorB t (chC.streamAt k n 1 t.length))).length = 16) := HTL.out
    generalize xorB t (chC.streamAt k n 1 t.length) = x at *
    generalize chC.tagOf k n d x = tg at *
    have hadd := add_str x tg (by rw [HXL.out, HTG.out]; unfold maxLen; omega)
    rw [HSH.out] at HR
    clear S hk hz h1 h2 HTL HSH
    generalize rlSeal k n d t = rs at *
    have HR2 := HR.out
    subst HR2
    clear HR
    go_enter Tryz.func92, Tryz.ntmps92
    go_wp2_with fail
    refine HT.out.mono ?_
    rintro e w2 ⟨rfl, S⟩
    have HS2 := Lib.hid S
    clear S HS HT
    go_wp2_with fail
    refine (HG.out _ HS2.out).mono ?_
    rintro e w3 ⟨rfl, S⟩
    have HS3 := Lib.hid S
    clear S HS2
    go_wp2_with fail
    go_ret2
    exact ⟨rfl, HS3.out⟩
  · have HR : Hid (rlSeal k n d t = ([], 5)) := if_neg h
    clear S hk hz
    generalize rlSeal k n d t = rs at *
    have HR2 := HR.out
    subst HR2
    clear HR
    by_cases h1 : d.length ≤ 4096
    · have h1' : (d.length : Int) ≤ 4096 := by omega
      have h2' : ¬ (t.length : Int) ≤ 16384 := by omega
      clear h h1
      go_enter Tryz.func92, Tryz.ntmps92
      go_wp2_with fail
      go_ret2
      exact ⟨rfl, HS.out⟩
    · have h1' : ¬ (d.length : Int) ≤ 4096 := by omega
      clear h h1
      go_enter Tryz.func92, Tryz.ntmps92
      go_wp2_with fail
      go_ret2
      exact ⟨rfl, HS.out⟩
set_option maxRecDepth 100000 in
set_option maxHeartbeats 2000000 in
theorem aeOpen (k n d s : Bs) (hk : k.length = 32) (hz : n.length = 12) (hs : s.length ≤ 1000000) (S : Sp w0 F0 w L) :
    Calls Tryz.prog 95 #[.string ⟨k.toArray⟩, .string ⟨n.toArray⟩, .string ⟨d.toArray⟩, .string ⟨s.toArray⟩] w fun e w2 => e = .returned (.tuple #[.string ⟨(rlOpen k n d s).1.toArray⟩, .int .i64 (rlOpen k n d s).2]) ∧ Sp w0 F0 w2 L := by
  have HS := Lib.hid S
  have hs' : (s.length : Int) ≤ 1000000 := by omega
  by_cases h : d.length ≤ 4096 ∧ 16 ≤ s.length ∧ s.length ≤ 16400
  · have HR : Hid (rlOpen k n d s = (match chC.open k n d s with | some t => (t, 0) | none => ([], 20))) := if_pos h
    obtain ⟨h1, h2, h3⟩ := h
    have h1' : (d.length : Int) ≤ 4096 := by omega
    have h2' : (16 : Int) ≤ s.length := by omega
    have h3' : (s.length : Int) ≤ 16400 := by omega
    obtain ⟨m, hm⟩ : ∃ m : Nat, (m : Int) = (s.length : Int) - 16 := ⟨s.length - 16, by omega⟩
    have hmn : m = s.length - 16 := by omega
    have hc1 := cut_head s m
    have hc2 := cut_tail s m s.length rfl
    have HTL : Hid ((s.take m).length = m) := by unfold Hid; rw [List.length_take]; omega
    have HDL : Hid ((s.drop m).length = 16) := by unfold Hid; rw [List.length_drop]; omega
    have HG := Lib.hid (aeTag k n d (s.take m) hk hz (by omega) (by rw [HTL.out]; omega) S)
    have HT := Lib.hid (fun (W : World) (S' : Sp w0 F0 W L) => chTurn k n (s.take m) 1 hk hz (by decide) (by rw [HTL.out]; omega) S')
    rw [HTL.out] at HT
    have HTG : Hid ((chC.tagOf k n d (s.take m)).length = 16) := chC.tlen _ _
    have HOP : Hid (chC.open k n d s = if chC.tagOf k n d (s.take m) = s.drop m then some (xorB (s.take m) (chC.streamAt k n 1 m)) else none) := by
      rw [hmn]
      rfl
    generalize chC.open k n d s = op at *
    generalize chC.streamAt k n 1 m = st at *
    generalize chC.tagOf k n d (s.take m) = tg at *
    generalize s.take m = sm at *
    generalize s.drop m = sd at *
    have HM := Lib.hid hm
    have hm1 : (s.length : Int) - 16 = m := hm.symm
    have hm2 : (m : Int) ≤ 16384 := by omega
    have hm3 : (m : Int) ≤ s.length := by omega
    have hm4 : m ≤ s.length := by omega
    clear S hk hz h1 h2 h3 hm hmn hs
    generalize rlOpen k n d s = rs at *
    go_enter Tryz.func95, Tryz.ntmps95
    go_wp2_with fail
    refine HG.out.mono ?_
    rintro e w2 ⟨rfl, S⟩
    have HS2 := Lib.hid S
    clear S HS HG
    go_wp2_with fail
    refine (octSame_any tg sd (by rw [HTG.out]; decide) (by rw [HDL.out]; decide) HS2.out).mono ?_
    rintro e w3 ⟨rfl, S⟩
    have HS3 := Lib.hid S
    clear S HS2
    by_cases ht : tg = sd
    · rw [if_pos ht] at HOP
      rw [decide_eq_true ht]
      rw [HOP.out] at HR
      have HR2 := HR.out
      dsimp only at HR2
      subst HR2
      clear HR HOP ht
      go_wp2_with fail
      refine (HT.out _ HS3.out).mono ?_
      rintro e w4 ⟨rfl, S⟩
      have HS4 := Lib.hid S
      clear S HS3
      go_wp2_with fail
      go_ret2
      exact ⟨rfl, HS4.out⟩
    · rw [if_neg ht] at HOP
      rw [decide_eq_false ht]
      rw [HOP.out] at HR
      have HR2 := HR.out
      dsimp only at HR2
      subst HR2
      clear HR HOP ht
      go_wp2_with fail
      go_ret2
      exact ⟨rfl, HS3.out⟩
  · have HR : Hid (rlOpen k n d s = ([], 5)) := if_neg h
    clear S hk hz
    generalize rlOpen k n d s = rs at *
    have HR2 := HR.out
    subst HR2
    clear HR
    by_cases h1 : d.length ≤ 4096
    · have h1' : (d.length : Int) ≤ 4096 := by omega
      by_cases h2 : 16 ≤ s.length
      · have h2' : (16 : Int) ≤ s.length := by omega
        have h3' : ¬ (s.length : Int) ≤ 16400 := by omega
        clear h h1 h2
        go_enter Tryz.func95, Tryz.ntmps95
        go_wp2_with fail
        go_ret2
        exact ⟨rfl, HS.out⟩
      · have h2' : ¬ (16 : Int) ≤ s.length := by omega
        clear h h1 h2
        go_enter Tryz.func95, Tryz.ntmps95
        go_wp2_with fail
        go_ret2
        exact ⟨rfl, HS.out⟩
    · have h1' : ¬ (d.length : Int) ≤ 4096 := by omega
      clear h h1
      go_enter Tryz.func95, Tryz.ntmps95
      go_wp2_with fail
      go_ret2
      exact ⟨rfl, HS.out⟩
/-- A real box. -/
abbrev realR (b : Nat) : Res := boxR b #[.bool false, .string ⟨#[]⟩, .map none] 102
set_option maxRecDepth 100000 in
set_option maxHeartbeats 1000000 in
theorem realS (S : Sp w0 F0 w L) : Calls Tryz.prog 29 #[] w fun e w2 => ∃ b, e = .returned (.pointer (some ⟨b, 0, none⟩)) ∧ Sp w0 F0 w2 (realR b :: L) := by
  have HS := Lib.hid (S.box #[.bool false, .string ⟨#[]⟩, .map none] 102)
  clear S
  go_enter Tryz.func29, Tryz.ntmps29
  go_wp2
  go_ret
  exact ⟨_, rfl, HS.out⟩
set_option maxRecDepth 100000 in
set_option maxHeartbeats 1000000 in
theorem rlSealS (k n d t : Bs) (hk : k.length = 32) (hz : n.length = 12) (S : Sp w0 F0 w (realR b :: L)) :
    Calls Tryz.prog 60 #[.pointer (some ⟨b, 0, none⟩), .string ⟨k.toArray⟩, .string ⟨n.toArray⟩, .string ⟨d.toArray⟩, .string ⟨t.toArray⟩] w fun e w2 => e = .returned (.tuple #[.string ⟨(rlSeal k n d t).1.toArray⟩, .int .i64 (rlSeal k n d t).2]) ∧ Sp w0 F0 w2 (realR b :: L) := by
  have c := S.cell
  have HA := Lib.hid (aeSeal k n d t hk hz S)
  generalize rlSeal k n d t = q at *
  clear S hk hz
  go_enter Tryz.func60, Tryz.ntmps60
  go_wp2_with fail
  refine HA.out.mono ?_
  rintro e w2 ⟨rfl, S⟩
  have HS := Lib.hid S
  clear S HA
  go_wp2_with fail
  go_ret2
  exact ⟨rfl, HS.out⟩
set_option maxRecDepth 100000 in
set_option maxHeartbeats 1000000 in
theorem rlOpenS (k n d s : Bs) (hk : k.length = 32) (hz : n.length = 12) (hs : s.length ≤ 1000000) (S : Sp w0 F0 w (realR b :: L)) :
    Calls Tryz.prog 62 #[.pointer (some ⟨b, 0, none⟩), .string ⟨k.toArray⟩, .string ⟨n.toArray⟩, .string ⟨d.toArray⟩, .string ⟨s.toArray⟩] w fun e w2 => e = .returned (.tuple #[.string ⟨(rlOpen k n d s).1.toArray⟩, .int .i64 (rlOpen k n d s).2]) ∧ Sp w0 F0 w2 (realR b :: L) := by
  have c := S.cell
  have HA := Lib.hid (aeOpen k n d s hk hz hs S)
  generalize rlOpen k n d s = q at *
  clear S hk hz hs
  go_enter Tryz.func62, Tryz.ntmps62
  go_wp2_with fail
  refine HA.out.mono ?_
  rintro e w2 ⟨rfl, S⟩
  have HS := Lib.hid S
  clear S HA
  go_wp2_with fail
  go_ret2
  exact ⟨rfl, HS.out⟩
end
end Go.Proofs.YtkenacggjffjnaaGreatDoor
