/- the document's disk: the part of memory that a disk is; New, Size. Conditions: the lengths fit. the document's disk: Fuse, Quota. No condition. the document's disk: Edit. Conditions: the lengths fit. the document's disk: done. Conditions: the lengths fit. the document's disk: done, Sync, Write, Append. Conditions: the lengths fit. the document's disk: Crash. Conditions: the lengths fit. -/
import Derived.Test.YtcffickkipicbaaGreatDoorRDk1
import Derived.Test.YtcffickkipicbaaGreatDoorDiskG
import Derived.Test.YtcffickkipicbaaGreatDoorDiskH
import Derived.Test.YtcffickkipicbaaGreatDoorArI
/-! RDkE -/
/-! RDkE -/
set_option linter.unusedSimpArgs false
set_option linter.unusedVariables false
set_option linter.unnecessarySimpa false
namespace Go.Proofs.YtcffickkipicbaaGreatDoor
open Go.RowKit Go.Maps

abbrev evK (u : Value) (l : List Ev) : Rom := ⟨u, 4, l.map Ev.vals⟩
structure RdV where
  n : Value
  s : Value
  p : Value
  t : Value
  K : List Rom
def rdCells (D : Dk) (X : RdV) : Array Value := #[X.n, X.s, X.p, X.t, .int .i64 D.quota, .int .i64 D.fuse, .bool D.dead]
structure RdIn (D : Dk) (X : RdV) : Prop where
  now : fsK X.n D.now ∈ X.K
  sure : fsK X.s D.sure ∈ X.K
  pend : evK X.p D.pend ∈ X.K
  trace : evK X.t D.trace ∈ X.K
  snow : D.now.Sorted
  ssure : D.sure.Sorted
/-- The document's disk as one part. -/
def rkR (x : Nat) (D : Dk) : Res := Res.ex fun X : RdV => (Res.pure (RdIn D X)).and ((boxR x (rdCells D X) 88).and (romR X.K))
section
variable {w0 w w2 : World} {L : List Res} {v : Value} {F0 : List Nat} {K K2 : List Rom} {D : Dk} {X : RdV} {x : Nat}
theorem Sp.rdOpen (S : Sp w0 F0 w (rkR x D :: L)) : ∃ X, RdIn D X ∧ Sp w0 F0 w (boxR x (rdCells D X) 88 :: romR X.K :: L) := by
  obtain ⟨X, S⟩ := Sp.exOpen S
  obtain ⟨h, S⟩ := S.part.pureOpen
  exact ⟨X, h, S.part⟩
theorem Sp.rdShut (h : RdIn D X) (S : Sp w0 F0 w (boxR x (rdCells D X) 88 :: romR X.K :: L)) : Sp w0 F0 w (rkR x D :: L) := Sp.exShut X (S.glue.pureShut h).glue
set_option maxRecDepth 100000 in
set_option maxHeartbeats 1000000 in
theorem rNewS (S : Sp w0 F0 w L) : Calls Tryz.prog 25 #[] w fun e w2 => ∃ x, e = .returned (.pointer (some ⟨x, 0, none⟩)) ∧ Sp w0 F0 w2 (rkR x Dk.new :: L) := by
  have HS := Lib.hid S
  clear S
  go_enter Tryz.func25, Tryz.ntmps25
  go_wp2
  go_ret
  refine ⟨_, rfl, ?_⟩
  have S1 := (HS.out.romNil.rowNil 93 4)
  have S2 := Sp.romMore (rows := []) S1 (by simp)
  have S3 := Sp.fsMore (l := []) (S2.rowNil 98 2)
  exact Sp.rdShut (X := ⟨.slice none 0 0, .slice none 0 0, .slice none 0 0, .slice none 0 0, [fsK (.slice none 0 0) [], evK (.slice none 0 0) []]⟩) ⟨by simp [Dk.new], by simp [Dk.new], by simp [Dk.new], by simp [Dk.new], by simp [Fs.Sorted, Dk.new], by simp [Fs.Sorted, Dk.new]⟩ (S3.box _ _)
set_option maxRecDepth 100000 in
set_option maxHeartbeats 4000000 in
theorem rSizeX (hX : RdIn D X) (hF : D.now.length ≤ 1000000) (hb : D.now.bytes < 1000000000000000000) (S1 : Sp w0 F0 w (boxR x (rdCells D X) 88 :: romR X.K :: L)) : Calls Tryz.prog 71 #[.pointer (some ⟨x, 0, none⟩)] w fun e w2 => e = .returned (.int .i64 D.now.bytes) ∧ Sp w0 F0 w2 (boxR x (rdCells D X) 88 :: romR X.K :: L) := by
  have HS := Lib.hid S1
  have T := S1.drop.romFs hX.now
  have HT := Lib.hid T
  have c0 := S1.cell 0
  obtain ⟨⟨D1, D2, D3, D4, D5, D6, D7⟩, rfl⟩ : ∃ D', D' = D := ⟨D, rfl⟩
  obtain ⟨xn, xs, xp, xt, xk⟩ := X
  unfold rdCells at c0
  dsimp only at *
  obtain ⟨va, vc, rfl⟩ := T.form
  generalize D1 = F at *
  have hn1 : (F.length : Int) ≤ 1000000 := by omega
  have HB : Hid (∀ k, (h : k < F.length) → Fs.bytes (F.take (k + 1)) = Fs.bytes (F.take k) + F[k].2.length ∧ Fs.bytes (F.take (k + 1)) ≤ Fs.bytes F) := fun k h => by
    have h1 : Fs.bytes F = Fs.bytes (F.take (k + 1)) + Fs.bytes (F.drop (k + 1)) := by
      unfold Fs.bytes
      rw [← List.sum_append, ← List.map_append, List.take_append_drop]
    refine ⟨?_, by omega⟩
    unfold Fs.bytes
    rw [List.take_succ_eq_append_getElem h, List.map_append, List.sum_append]
    rfl
  have HBB := Lib.hid hb
  clear S1 hX T hF hb
  go_enter Tryz.func71, Tryz.ntmps71
  go_wp2_with fail
  go_loopw [3, 4] (fun z at0 wr => wr = w ∧ ∃ k : Nat, at0 = .int .i64 k ∧ k ≤ F.length ∧ z = .int .i64 (Fs.bytes (F.take k) : Nat)) (fun _ at0 _ => F.length - (intOf at0).toNat)
  case atStart => exact ⟨rfl, 0, rfl, Nat.zero_le _, rfl⟩
  case round =>
    obtain ⟨rfl, k, rfl, hk, rfl⟩ := hrel
    have hk' : (k : Int) ≤ F.length := by omega
    by_cases hlt : k < F.length
    · have hlt' : (k : Int) < F.length := by omega
      obtain ⟨xb, xo, hva, x0, x1⟩ := HT.out.at hlt
      subst hva
      have HK := Lib.hid (HB.out k hlt)
      have hle : ((Fs.bytes (F.take k) : Nat) : Int) + (F[k].2.length : Int) < 1000000000000000000 := by have := HK.out; have := HBB.out; omega
      generalize F[k] = y at *
      obtain ⟨yn, yd⟩ := y
      dsimp only at *
      generalize Fs.bytes (F.take k) = z0 at *
      go_wp2_with fail
      go_roundw
      case rel => exact ⟨by trivial, k + 1, by go_num, by omega, by rw [HK.out.1]; go_num⟩
      case measure => simp [intOf]; omega
    · obtain rfl : k = F.length := by omega
      rw [List.take_length]
      go_wp2
      go_ret
      exact ⟨rfl, HS.out⟩
theorem rSizeS (hF : D.now.length ≤ 1000000) (hb : D.now.bytes < 1000000000000000000) (S : Sp w0 F0 w (rkR x D :: L)) : Calls Tryz.prog 71 #[.pointer (some ⟨x, 0, none⟩)] w fun e w2 => e = .returned (.int .i64 D.now.bytes) ∧ Sp w0 F0 w2 (rkR x D :: L) := by
  obtain ⟨X, hX, S1⟩ := S.rdOpen
  exact (rSizeX hX hF hb S1).mono fun e w2 h => ⟨h.1, Sp.rdShut hX h.2⟩
end
end Go.Proofs.YtcffickkipicbaaGreatDoor

/-! RDkF -/
/-! RDkF -/
namespace Go.Proofs.YtcffickkipicbaaGreatDoor
open Go.RowKit Go.Maps

section
variable {w0 w w2 : World} {L : List Res} {F0 : List Nat} {D : Dk} {X : RdV} {x : Nat}
theorem RdIn.quota {n : Int} (h : RdIn D X) : RdIn { D with quota := n } X := ⟨h.now, h.sure, h.pend, h.trace, h.snow, h.ssure⟩
theorem RdIn.fuse {n : Int} (h : RdIn D X) : RdIn { D with fuse := n } X := ⟨h.now, h.sure, h.pend, h.trace, h.snow, h.ssure⟩
set_option maxRecDepth 100000 in
set_option maxHeartbeats 4000000 in
theorem rFuseS (n : Int) (S : Sp w0 F0 w (rkR x D :: L)) : Calls Tryz.prog 29 #[.pointer (some ⟨x, 0, none⟩), .int .i64 n] w fun e w2 => e = .returned (.tuple #[]) ∧ Sp w0 F0 w2 (rkR x (D.setFuse n) :: L) := by
  obtain ⟨X, hX, S1⟩ := S.rdOpen
  have HS := Lib.hid S1
  have HX := Lib.hid hX
  have HV : Hid (D.setFuse n = if D.dead then D else { D with fuse := max n (-1) }) := rfl
  have c := S1.cell
  have f := S1.free
  clear S S1 hX
  obtain ⟨D1, D2, D3, D4, D5, D6, D7⟩ := D
  obtain ⟨xn, xs, xp, xt, xk⟩ := X
  unfold rdCells at *
  dsimp only at *
  cases D7 <;> by_cases hn : n < 0
  all_goals
    go_enter Tryz.func29, Tryz.ntmps29
    go_wp2
    go_end0
  · refine ⟨rfl, ?_⟩
    rw [HV.out, show max n (-1) = -1 by omega]
    exact Sp.rdShut HX.out.fuse (HS.out.set (o := 5) (.int .i64 (-1)))
  · refine ⟨rfl, ?_⟩
    rw [HV.out, show max n (-1) = n by omega]
    exact Sp.rdShut HX.out.fuse (HS.out.set (o := 5) (.int .i64 n))
  · exact ⟨rfl, by rw [HV.out]; exact Sp.rdShut HX.out HS.out⟩
  · exact ⟨rfl, by rw [HV.out]; exact Sp.rdShut HX.out HS.out⟩
set_option maxRecDepth 100000 in
set_option maxHeartbeats 4000000 in
theorem rQuotaS (n : Int) (S : Sp w0 F0 w (rkR x D :: L)) : Calls Tryz.prog 33 #[.pointer (some ⟨x, 0, none⟩), .int .i64 n] w fun e w2 => e = .returned (.tuple #[]) ∧ Sp w0 F0 w2 (rkR x { D with quota := max n 0 } :: L) := by
  obtain ⟨X, hX, S1⟩ := S.rdOpen
  have HS := Lib.hid S1
  have HX := Lib.hid hX
  have c := S1.cell
  have f := S1.free
  clear S S1 hX
  obtain ⟨D1, D2, D3, D4, D5, D6, D7⟩ := D
  obtain ⟨xn, xs, xp, xt, xk⟩ := X
  unfold rdCells at *
  dsimp only at *
  by_cases hn : n < 0
  all_goals
    go_enter Tryz.func33, Tryz.ntmps33
    go_wp2
    go_end0
  · refine ⟨rfl, ?_⟩
    rw [show max n 0 = 0 by omega]
    exact Sp.rdShut HX.out.quota ((HS.out.set (o := 4) (.int .i64 n)).set (o := 4) (.int .i64 0))
  · refine ⟨rfl, ?_⟩
    rw [show max n 0 = n by omega]
    exact Sp.rdShut HX.out.quota (HS.out.set (o := 4) (.int .i64 n))
set_option maxRecDepth 100000 in
set_option maxHeartbeats 4000000 in
theorem rReadS (n : Bs) (hF : D.now.length ≤ 1000000) (S : Sp w0 F0 w (rkR x D :: L)) : Calls Tryz.prog 74 #[.pointer (some ⟨x, 0, none⟩), .string ⟨n.toArray⟩] w fun e w2 => e = .returned (.tuple #[.string ⟨((D.now.get n).getD []).toArray⟩, .int .i64 (if D.now.has n then 0 else 10)]) ∧ Sp w0 F0 w2 (rkR x D :: L) := by
  obtain ⟨X, hX, S1⟩ := S.rdOpen
  have HS := Lib.hid S
  have HFI := Lib.hid (rFind_any D.now n w hF (S1.drop.romFs hX.now))
  have HDA := Lib.hid (rData_any D.now n w hF (S1.drop.romFs hX.now))
  have c := S1.cell 0
  have hc := findI_cases n D.now
  clear S S1 hX
  obtain ⟨xn, xs, xp, xt, xk⟩ := X
  unfold rdCells at *
  dsimp only at *
  rcases hc with ⟨h1, h2, h3⟩ | ⟨k, hk, h1, h2, h3⟩
  · rw [h1] at HFI
    rw [h2]
    have H3 := Lib.hid h3
    clear h1 h2 h3
    simp only [if_true, if_false, Bool.false_eq_true]
    go_enter Tryz.func74, Tryz.ntmps74
    go_wp2_with fail
    refine HFI.out.mono ?_
    rintro e wq ⟨rfl, rfl⟩
    go_wp2
    go_ret2
    exact ⟨by rw [H3.out]; rfl, HS.out⟩
  · rw [h1] at HFI
    rw [h2]
    have H3 := Lib.hid h3
    clear h1 h2 h3
    simp only [if_true, if_false, Bool.false_eq_true]
    go_enter Tryz.func74, Tryz.ntmps74
    go_wp2_with fail
    refine HFI.out.mono ?_
    rintro e wq ⟨rfl, rfl⟩
    go_wp2_with fail
    refine HDA.out.mono ?_
    rintro e wq2 ⟨rfl, rfl⟩
    go_wp2
    go_ret2
    exact ⟨rfl, HS.out⟩
end
end Go.Proofs.YtcffickkipicbaaGreatDoor

/-! RDkG -/
/-! RDkG -/
namespace Go.Proofs.YtcffickkipicbaaGreatDoor
open Go.RowKit Go.Maps

section
variable {w0 w w2 : World} {L : List Res} {F0 : List Nat} {D : Dk} {X : RdV} {x : Nat}
theorem findI_has (n : Bs) (F : Fs) : (F.has n = false → findI n F = -1) ∧ (F.has n = true → 0 ≤ findI n F) := by
  rcases findI_cases n F with ⟨h1, h2, _⟩ | ⟨k, _, h1, h2, _⟩
  · exact ⟨fun _ => h1, fun h => (by rw [h2] at h; cases h)⟩
  · exact ⟨fun h => (by rw [h2] at h; cases h), fun _ => by omega⟩
end
end Go.Proofs.YtcffickkipicbaaGreatDoor

/-! RDkH -/
/-! RDkH -/
namespace Go.Proofs.YtcffickkipicbaaGreatDoor
open Go.RowKit Go.Maps

section
variable {w0 w w2 : World} {L : List Res} {F0 : List Nat} {D : Dk} {X : RdV} {x : Nat}
theorem RdIn.dies (h : RdIn D X) : RdIn { D with dead := true } X := ⟨h.now, h.sure, h.pend, h.trace, h.snow, h.ssure⟩
set_option maxRecDepth 100000 in
set_option maxHeartbeats 4000000 in
theorem rDoneDead (e : Ev) (hd : D.dead = true ∨ D.fuse = 0) (S : Sp w0 F0 w (rkR x D :: L)) : Calls Tryz.prog 73 #[.pointer (some ⟨x, 0, none⟩), e.agg] w fun r w2 => r = .returned (.int .i64 13) ∧ Sp w0 F0 w2 (rkR x { D with dead := true } :: L) := by
  obtain ⟨X, hX, S1⟩ := S.rdOpen
  have HS := Lib.hid (S1.box #[.int .i64 e.op, .string ⟨e.name.toArray⟩, .string ⟨e.to.toArray⟩, .string ⟨e.data.toArray⟩] 93).drop
  have HX := Lib.hid hX
  have c := HS.out.cell
  have f := HS.out.free
  have hlt := S1.boxlt
  clear S S1 hX
  obtain ⟨D1, D2, D3, D4, D5, D6, D7⟩ := D
  obtain ⟨xn, xs, xp, xt, xk⟩ := X
  unfold rdCells at *
  dsimp only at *
  by_cases hf : D6 = 0
  · subst hf
    go_enter Tryz.func73, Tryz.ntmps73
    go_upto_region 1 with (fail)
    generalize w.alloc _ = w1 at *
    generalize w.heap.size = q at *
    go_wp2
    go_ret
    exact ⟨rfl, Sp.rdShut HX.out.dies (HS.out.set (o := 6) (.bool true))⟩
  · have hd2 : D7 = true := hd.resolve_right hf
    subst hd2
    have hf2 : (D6 == 0) = false := by simpa using hf
    go_enter Tryz.func73, Tryz.ntmps73
    go_upto_region 1 with (fail)
    generalize w.alloc _ = w1 at *
    generalize w.heap.size = q at *
    go_wp2
    go_ret
    exact ⟨rfl, Sp.rdShut HX.out.dies HS.out⟩
theorem flag_rows {l : Nat → Bool} {i x y z : Nat} {A B C D : Prop} (hx : (x == i) = false) (hy : (y == i) = false) (hz : (z == i) = false) (h : (l x = false ∧ A) ∨ (l x = true ∧ l y = false ∧ B) ∨ (l y = true ∧ l z = false ∧ C) ∨ (l z = true ∧ D)) : ((l x || x == i) = false ∧ A) ∨ ((l x || x == i) = true ∧ (l y || y == i) = false ∧ B) ∨ ((l y || y == i) = true ∧ (l z || z == i) = false ∧ C) ∨ ((l z || z == i) = true ∧ D) := by
  rw [hx, hy, hz, Bool.or_false, Bool.or_false, Bool.or_false]
  exact h
theorem infoEv11 : (Tryz.prog.info? 93).map (fun i => (i.zero, i.size, i.bytes)) = some (some (.agg #[.int .i64 0, .string ⟨#[]⟩, .string ⟨#[]⟩, .string ⟨#[]⟩]), 4, 56) := by kernel_rfl
theorem ev_len {l : List Ev} : ∀ x ∈ l.map Ev.vals, x.length = 4 := by
  intro x hx
  obtain ⟨e, _, rfl⟩ := List.mem_map.1 hx
  rfl
theorem ev_one {l : List Ev} : ∀ u ∈ (l.map Ev.vals).flatten, u.oneCell' = true := by
  intro u hu
  obtain ⟨x, hx, h2⟩ := List.mem_flatten.1 hu
  obtain ⟨e, _, rfl⟩ := List.mem_map.1 hx
  simp only [Ev.vals, List.mem_cons, List.not_mem_nil, or_false] at h2
  rcases h2 with rfl | rfl | rfl | rfl <;> rfl
theorem RdIn.burnt (h : RdIn D X) : RdIn D.burnt X := ⟨h.now, h.sure, h.pend, h.trace, h.snow, h.ssure⟩
theorem Sp.evForm {K : List Rom} {v : Value} {l : List Ev} (S : Sp w0 F0 w (romR K :: L)) (h : evK v l ∈ K) : ∃ a cap, v = .slice a l.length cap := by
  obtain ⟨F, a, cap, h1, _⟩ := S.rom h
  exact ⟨a, cap, by simpa using h1⟩
theorem rDoF {K : List Rom} {v : Value} (F : Fs) (e : Ev) (hF : F.length ≤ 1000000) (hs : F.Sorted) (hd : e.op = 2 → ((F.get e.name).getD []).length + e.data.length ≤ maxLen) (S : Sp w0 F0 w (romR K :: L)) (T : fsK v F ∈ K) : Calls Tryz.prog 68 #[v, e.agg] w fun r w2 => ∃ ua uc, r = .returned (.slice ua (F.did e).length uc) ∧ Sp w0 F0 w2 (romR (fsK (.slice ua (F.did e).length uc) (F.did e) :: K) :: L) :=
  (rDoS F e hF hs hd S T).mono fun r w2 ⟨u, h1, S2⟩ => by
    obtain ⟨ua, uc, rfl⟩ := (S2.romFs List.mem_cons_self).form
    exact ⟨ua, uc, h1, S2⟩
theorem ev_more {K : List Rom} {v : Value} {l : List Ev} {e : Ev} (S : Sp w0 F0 w (rowR 93 4 v (0 + (l.map Ev.vals).length + 1) ([] ++ (l.map Ev.vals).flatten ++ (#[.int .i64 e.op, .string ⟨e.name.toArray⟩, .string ⟨e.to.toArray⟩, .string ⟨e.data.toArray⟩] : Array Value).toList) :: romR K :: L)) : Sp w0 F0 w (romR (evK v (l ++ [e]) :: K) :: L) := by
  have h1 : 0 + (l.map Ev.vals).length + 1 = ((l ++ [e]).map Ev.vals).length := by simp
  have h2 : ([] ++ (l.map Ev.vals).flatten ++ (#[.int .i64 e.op, .string ⟨e.name.toArray⟩, .string ⟨e.to.toArray⟩, .string ⟨e.data.toArray⟩] : Array Value).toList) = ((l ++ [e]).map Ev.vals).flatten := by simp [Ev.vals]
  rw [h1, h2] at S
  exact S.romMore ev_len
set_option maxRecDepth 100000 in
set_option maxHeartbeats 40000000 in
theorem rDoneLive (e : Ev) (hd : D.dead = false) (hf : D.fuse ≠ 0) (hfm : D.fuse ≤ 9223372036854775807) (hF : D.now.length ≤ 1000000) (hp : D.pend.length < 1000000000) (ht : D.trace.length < 1000000000) (hdt : e.op = 2 → ((D.now.get e.name).getD []).length + e.data.length ≤ maxLen) (S : Sp w0 F0 w (rkR x D :: L)) : Calls Tryz.prog 73 #[.pointer (some ⟨x, 0, none⟩), e.agg] w fun r w2 => r = .returned (.int .i64 0) ∧ Sp w0 F0 w2 (rkR x (D.done e).1 :: L) := by
  obtain ⟨X, hX, S1⟩ := S.rdOpen
  have HDN : Hid ((D.done e).1 = if e.op = 5 then { D with fuse := (if 0 < D.fuse then D.fuse - 1 else D.fuse), trace := D.trace ++ [e], sure := D.now, pend := [] } else { D with fuse := (if 0 < D.fuse then D.fuse - 1 else D.fuse), trace := D.trace ++ [e], now := D.now.did e, pend := D.pend ++ [e] }) := by
    unfold Hid Dk.done
    have hf2 : (D.fuse == 0) = false := by simpa using hf
    rw [hd, hf2]
    by_cases h5 : e.op = 5 <;> simp [h5]
  have HS := Lib.hid (S1.box #[.int .i64 e.op, .string ⟨e.name.toArray⟩, .string ⟨e.to.toArray⟩, .string ⟨e.data.toArray⟩] 93).pull1
  have HX := Lib.hid hX
  have HRN := Lib.hid ht
  have HPN := Lib.hid hp
  have HFN := Lib.hid hF
  have HDT := Lib.hid hdt
  have c := HS.out.cell
  have f := HS.out.free
  obtain ⟨D1, D2, D3, D4, D5, D6, D7⟩ := D
  obtain ⟨xn, xs, xp, xt, xk⟩ := X
  obtain ⟨na, nc, hxn⟩ := (S1.drop.romFs hX.now).form
  obtain ⟨ta, tc, hxt⟩ := S1.drop.evForm hX.trace
  obtain ⟨pa, pc, hxp⟩ := S1.drop.evForm hX.pend
  dsimp only at hxn hxt hxp
  subst hxn
  subst hxt
  subst hxp
  clear S S1 hX ht hp hF hdt
  unfold rdCells at *
  dsimp only at *
  subst hd
  have hf2 : (D6 == 0) = false := by simpa using hf
  go_enter Tryz.func73, Tryz.ntmps73
  go_upto_region 1 with (fail)
  generalize w.alloc _ = w1 at *
  generalize w.heap.size = q at *
  obtain ⟨df, hdf⟩ : ∃ df : Int, df = if 0 < D6 then D6 - 1 else D6 := ⟨_, rfl⟩
  go_upto_if 21 with (fail)
  go_cut [] (fun wx => Sp w0 F0 wx (boxR x #[.slice na D1.length nc, xs, .slice pa D3.length pc, .slice ta D4.length tc, .int .i64 D5, .int .i64 df, .bool false] 88 :: boxR q #[.int .i64 e.op, .string ⟨e.name.toArray⟩, .string ⟨e.to.toArray⟩, .string ⟨e.data.toArray⟩] 93 :: romR xk :: L))
  case first =>
    by_cases hpos : 0 < D6
    · rw [if_pos hpos] at hdf
      have HDF := Lib.hid hdf
      clear hdf
      go_wp2
      go_meet
      rw [HDF.out]
      exact HS.out.set (o := 5) (.int .i64 (D6 - 1))
    · rw [if_neg hpos] at hdf
      have HDF := Lib.hid hdf
      clear hdf
      go_wp2
      go_meet
      rw [HDF.out]
      exact HS.out
  case rest =>
    have HS2 := Lib.hid hcut
    have HDF := Lib.hid hdf
    clear c f HS hcut hdf hf hf2 hfm
    have HL7 := Lib.hid (ev_len (l := D4))
    have HR1 := Lib.hid (ev_one (l := D4))
    have HQT := Lib.hid HX.out.trace
    have HRN2 : Hid ((D4.map Ev.vals).length < 1000000000) := by rw [List.length_map]; exact HRN.out
    dsimp only at HQT
    go_upto_region 7 with (fail)
    refine wp_region_held (S := fun wx => ∀ o, wx.cell? ⟨q, o, none⟩ = (#[.int .i64 e.op, .string ⟨e.name.toArray⟩, .string ⟨e.to.toArray⟩, .string ⟨e.data.toArray⟩] : Array Value)[o]?) (by kernel_rfl) ?_
    have hS0 := ((Sp.pick [_, _] [1] (by decide) (HS2.out.drew))).cell
    refine wpAnyH_takeD (i := 0) 29 (v := ?_) rfl rfl (by kernel_rfl) (by kernel_rfl) (by kernel_rfl) (fun _ _ _ h => h) (Or.inl ⟨by rfl, ?_⟩) hS0 ?_
    rotate_left 1
    · intro wS s0
      go_simp
      try with_reducible rfl
    simp only [Act.put, List.setIfInBounds_toArray, List.set_cons_zero, List.set_cons_succ]
    refine wpAnyH_takeD (i := 2) 31 (v := ?_) rfl rfl (by kernel_rfl) (by kernel_rfl) (by kernel_rfl) (fun _ _ _ h => h) (Or.inl ⟨by rfl, ?_⟩) hS0 ?_
    rotate_left 1
    · intro wS s0
      go_simp
      try with_reducible rfl
    simp only [Act.put, List.setIfInBounds_toArray, List.set_cons_zero, List.set_cons_succ]
    refine wpAnyH_takeD (i := 3) 32 (v := ?_) rfl rfl (by kernel_rfl) (by kernel_rfl) (by kernel_rfl) (fun _ _ _ h => h) (Or.inl ⟨by rfl, ?_⟩) hS0 ?_
    rotate_left 1
    · intro wS s0
      go_simp
      try with_reducible rfl
    simp only [Act.put, List.setIfInBounds_toArray, List.set_cons_zero, List.set_cons_succ]
    refine wpAnyH_takeD (i := 4) 33 (v := ?_) rfl rfl (by kernel_rfl) (by kernel_rfl) (by kernel_rfl) (fun _ _ _ h => h) (Or.inl ⟨by rfl, ?_⟩) hS0 ?_
    rotate_left 1
    · intro wS s0
      go_simp
      try with_reducible rfl
    simp only [Act.put, List.setIfInBounds_toArray, List.set_cons_zero, List.set_cons_succ]
    refine wpAnyH_takeD (i := 7) 36 (v := ?_) rfl rfl (by kernel_rfl) (by kernel_rfl) (by kernel_rfl) (fun _ _ _ h => h) (Or.inl ⟨by rfl, ?_⟩) hS0 ?_
    rotate_left 1
    · intro wS s0
      go_simp
      try with_reducible rfl
    simp only [Act.put, List.setIfInBounds_toArray, List.set_cons_zero, List.set_cons_succ]
    refine wpAnyH_gen (fun a0 hA => ?_)
    have hsz : a0.tmps.size = 75 := by rw [← hA]; rfl
    have e4 : a0.eval (.tmp 33) = .pointer (some ⟨x, 3, none⟩) := by rw [← hA]; rfl
    have e7 : a0.eval (.tmp 36) = .agg #[.int .i64 e.op, .string ⟨e.name.toArray⟩, .string ⟨e.to.toArray⟩, .string ⟨e.data.toArray⟩] := by rw [← hA]; rfl
    have e0 : a0.eval (.tmp 29) = .pointer (some ⟨x, 0, none⟩) := by rw [← hA]; rfl
    refine wpAnyH_inv (by kernel_rfl) (fun l a wx => (l 0 = true ∧ l 2 = true ∧ l 3 = true ∧ l 4 = true ∧ l 7 = true) ∧ ∃ (v1 v5 v6 v8 v9 v10 v11 : Value) (CX : Array Value) (MA MB : List Res), a = (((((((a0.put (some 30) v1).put (some 34) v5).put (some 35) v6).put (some 37) v8).put (some 38) v9).put (some 39) v10).put (some 40) v11) ∧ (l 6 = true → l 1 = true) ∧ (l 6 = true → l 5 = true) ∧ (l 9 = true → l 6 = true) ∧ (l 9 = true → l 8 = true) ∧ (l 12 = true → l 9 = true) ∧ (l 10 = true → l 9 = true) ∧ (l 11 = true → l 10 = true) ∧ (l 5 = true → v5 = (.slice ta D4.length tc)) ∧ (l 10 = true → v10 = .pointer (some ⟨x, 0, none⟩)) ∧ (l 11 = true → v11 = .pointer (some ⟨x, 3, none⟩)) ∧ ((l 1 = false ∧ MA = []) ∨ (l 1 = true ∧ l 6 = false ∧ MA = [rowR 93 4 v1 0 []]) ∨ (l 6 = true ∧ l 9 = false ∧ MA = [rowR 93 4 v6 (0 + (D4.map Ev.vals).length) ([] ++ (D4.map Ev.vals).flatten)]) ∨ (l 9 = true ∧ (∃ g cap, v9 = .slice (some ⟨g, 0, none⟩) (0 + (D4.map Ev.vals).length + 1) cap) ∧ MA = [rowR 93 4 v9 (0 + (D4.map Ev.vals).length + 1) ([] ++ (D4.map Ev.vals).flatten ++ (#[.int .i64 e.op, .string ⟨e.name.toArray⟩, .string ⟨e.to.toArray⟩, .string ⟨e.data.toArray⟩] : Array Value).toList)])) ∧ ((l 8 = true ∧ ∃ g, v8 = .slice (some ⟨g, 0, none⟩) 1 1 ∧ MB = [boxR g #[.int .i64 e.op, .string ⟨e.name.toArray⟩, .string ⟨e.to.toArray⟩, .string ⟨e.data.toArray⟩] 93]) ∨ (l 8 = false ∧ MB = [])) ∧ ((l 12 = true ∧ CX = (#[.slice na D1.length nc, xs, .slice pa D3.length pc, .slice ta D4.length tc, .int .i64 D5, .int .i64 df, .bool false] : Array Value).setIfInBounds 3 v9) ∨ (l 12 = false ∧ CX = #[.slice na D1.length nc, xs, .slice pa D3.length pc, .slice ta D4.length tc, .int .i64 D5, .int .i64 df, .bool false])) ∧ Sp w0 F0 wx (MB ++ (MA ++ (boxR x CX 88 :: boxR q #[.int .i64 e.op, .string ⟨e.name.toArray⟩, .string ⟨e.to.toArray⟩, .string ⟨e.data.toArray⟩] 93 :: romR xk :: L)))) ?_ ?_ _ _ _ _ (by kernel_rfl) (by kernel_rfl) ?_
    · rintro l a wx i o ⟨hlp, v1, v5, v6, v8, v9, v10, v11, CX, MA, MB, rfl, k6_1, k6_5, k9_6, k9_8, k12_9, k10_9, k11_10, d5, d10, d11, mA, mB, mC, S⟩ ho hl hpre
      have hi : i = 1 ∨ i = 5 ∨ i = 6 ∨ i = 8 ∨ i = 9 ∨ i = 10 ∨ i = 11 ∨ i = 12 := by
        have h1 := (Array.getElem?_eq_some_iff.1 ho).1
        simp at h1
        have n0 : i ≠ 0 := by rintro rfl; rw [hlp.1] at hl; cases hl
        have n2 : i ≠ 2 := by rintro rfl; rw [hlp.2.1] at hl; cases hl
        have n3 : i ≠ 3 := by rintro rfl; rw [hlp.2.2.1] at hl; cases hl
        have n4 : i ≠ 4 := by rintro rfl; rw [hlp.2.2.2.1] at hl; cases hl
        have n7 : i ≠ 7 := by rintro rfl; rw [hlp.2.2.2.2] at hl; cases hl
        omega
      rcases hi with rfl | rfl | rfl | rfl | rfl | rfl | rfl | rfl
      · cases ho
        refine ⟨rfl, ?_⟩
        have h6 : l 6 = false := by cases h : l 6 with | false => rfl | true => rw [k6_1 h] at hl; cases hl
        have h9 : l 9 = false := by cases h : l 9 with | false => rfl | true => rw [k9_6 h] at h6; cases h6
        have h12 : l 12 = false := by cases h : l 12 with | false => rfl | true => rw [k12_9 h] at h9; cases h9
        obtain rfl : MA = [] := by rcases mA with ⟨_, h⟩ | ⟨h, _⟩ | ⟨h, _⟩ | ⟨h, _⟩ <;> first | exact h | (exfalso; simp_all; done)
        refine Oper.wp_mono (K := fun a2 w2 => a2 = (((((((a0.put (some 30) v1).put (some 34) v5).put (some 35) v6).put (some 37) v8).put (some 38) v9).put (some 39) v10).put (some 40) v11).put (some 30) (.slice (some ⟨wx.heap.size, 0, none⟩) 0 0) ∧ w2 = wx.alloc (.cells #[] 93)) ?_ ?_
        · rintro a2 w2 ⟨rfl, rfl⟩
          have S2 := S.rowLaid 93 4 0 [] rfl (by unfold maxLen; omega)
          have S3 : Sp w0 F0 (wx.alloc (.cells #[] 93)) (MB ++ ([rowR 93 4 (.slice (some ⟨wx.heap.size, 0, none⟩) 0 0) 0 []] ++ (boxR x CX 88 :: boxR q #[.int .i64 e.op, .string ⟨e.name.toArray⟩, .string ⟨e.to.toArray⟩, .string ⟨e.data.toArray⟩] 93 :: romR xk :: L))) := by
            rcases mB with ⟨_, g, _, rfl⟩ | ⟨_, rfl⟩
            · exact S2.pull1
            · exact S2
          exact ⟨((Sp.pick [_, _] [1] (by decide) ((Sp.drops [_] (Sp.drops MB S3))))).cell, ⟨⟨flag_up (hlp.1), flag_up (hlp.2.1), flag_up (hlp.2.2.1), flag_up (hlp.2.2.2.1), flag_up (hlp.2.2.2.2)⟩, _, v5, v6, v8, v9, v10, v11, CX, [_], MB, (by rw [put_turn _ 40 30 _ _ (by decide), put_turn _ 39 30 _ _ (by decide), put_turn _ 38 30 _ _ (by decide), put_turn _ 37 30 _ _ (by decide), put_turn _ 35 30 _ _ (by decide), put_turn _ 34 30 _ _ (by decide), put_over]), (fun h => by rw [flag_dn (x := 6) rfl h] at h6; cases h6), (fun h => flag_up (k6_5 (flag_dn rfl h))), (fun h => flag_up (k9_6 (flag_dn rfl h))), (fun h => flag_up (k9_8 (flag_dn rfl h))), (fun h => flag_up (k12_9 (flag_dn rfl h))), (fun h => flag_up (k10_9 (flag_dn rfl h))), (fun h => flag_up (k11_10 (flag_dn rfl h))), (fun h => d5 (flag_dn rfl h)), (fun h => d10 (flag_dn rfl h)), (fun h => d11 (flag_dn rfl h)), .inr (.inl ⟨by simp, by simp [h6], rfl⟩), flag_or rfl mB, flag_or rfl mC, S3⟩⟩
        · generalize (((((((a0.put (some 30) v1).put (some 34) v5).put (some 35) v6).put (some 37) v8).put (some 38) v9).put (some 39) v10).put (some 40) v11) = a1 at *
          go_simp
      · cases ho
        refine ⟨rfl, ?_⟩
        have h6 : l 6 = false := by cases h : l 6 with | false => rfl | true => rw [k6_5 h] at hl; cases hl
        have h9 : l 9 = false := by cases h : l 9 with | false => rfl | true => rw [k9_6 h] at h6; cases h6
        have h12 : l 12 = false := by cases h : l 12 with | false => rfl | true => rw [k12_9 h] at h9; cases h9
        obtain rfl : CX = #[.slice na D1.length nc, xs, .slice pa D3.length pc, .slice ta D4.length tc, .int .i64 D5, .int .i64 df, .bool false] := by rcases mC with ⟨h, _⟩ | ⟨_, h⟩; rw [h12] at h; cases h; exact h
        have cc := (Sp.drops MA (Sp.drops MB S)).cell 3
        refine Oper.wp_mono (K := fun a2 w2 => a2 = (((((((a0.put (some 30) v1).put (some 34) v5).put (some 35) v6).put (some 37) v8).put (some 38) v9).put (some 39) v10).put (some 40) v11).put (some 34) (.slice ta D4.length tc) ∧ w2 = wx) ?_ ?_
        · rintro a2 w2 ⟨rfl, rfl⟩
          exact ⟨((Sp.pick [_, _] [1] (by decide) ((Sp.drops MA (Sp.drops MB S))))).cell, ⟨⟨flag_up (hlp.1), flag_up (hlp.2.1), flag_up (hlp.2.2.1), flag_up (hlp.2.2.2.1), flag_up (hlp.2.2.2.2)⟩, v1, _, v6, v8, v9, v10, v11, _, MA, MB, (by rw [put_turn _ 40 34 _ _ (by decide), put_turn _ 39 34 _ _ (by decide), put_turn _ 38 34 _ _ (by decide), put_turn _ 37 34 _ _ (by decide), put_turn _ 35 34 _ _ (by decide), put_over]), (fun h => flag_up (k6_1 (flag_dn rfl h))), (fun h => by rw [flag_dn (x := 6) rfl h] at h6; cases h6), (fun h => flag_up (k9_6 (flag_dn rfl h))), (fun h => flag_up (k9_8 (flag_dn rfl h))), (fun h => flag_up (k12_9 (flag_dn rfl h))), (fun h => flag_up (k10_9 (flag_dn rfl h))), (fun h => flag_up (k11_10 (flag_dn rfl h))), (fun _ => rfl), (fun h => d10 (flag_dn rfl h)), (fun h => d11 (flag_dn rfl h)), flag_rows rfl rfl rfl mA, flag_or rfl mB, flag_or rfl mC, S⟩⟩
        · have es : (((((((a0.put (some 30) v1).put (some 34) v5).put (some 35) v6).put (some 37) v8).put (some 38) v9).put (some 39) v10).put (some 40) v11).eval (.tmp 33) = .pointer (some ⟨x, 3, none⟩) := by rw [evalP_ne _ 40 33 _ (by decide), evalP_ne _ 39 33 _ (by decide), evalP_ne _ 38 33 _ (by decide), evalP_ne _ 37 33 _ (by decide), evalP_ne _ 35 33 _ (by decide), evalP_ne _ 34 33 _ (by decide), evalP_ne _ 30 33 _ (by decide), e4]
          generalize (((((((a0.put (some 30) v1).put (some 34) v5).put (some 35) v6).put (some 37) v8).put (some 38) v9).put (some 39) v10).put (some 40) v11) = a1 at *
          have es2 : a1.tmps[33]?.getD undef = .pointer (some ⟨x, 3, none⟩) := by rw [← Array.getD_eq_getD_getElem?]; exact es
          have cc2 : wx.cell? ⟨x, 3, none⟩ = some (.slice ta D4.length tc) := cc
          clear cc S mA mB mC k6_1 k6_5 k9_6 k9_8 k12_9 k10_9 k11_10 d5 d10 d11 hpre hlp es
          go_simp
      · obtain ⟨hop, hdn, hg⟩ : o.op = .call { callee := .builtin .append, args := #[.tmp 30, .tmp 34], argTypes := #[86, 86] } ∧ o.dst = some 35 ∧ o.type = 86 := by cases ho; exact ⟨by kernel_rfl, by kernel_rfl, by kernel_rfl⟩
        refine ⟨by cases ho; rfl, ?_⟩
        have h1 : l 1 = true := by cases ho; exact hpre ⟨1, .data⟩ (by simp) rfl
        have h5 : l 5 = true := by cases ho; exact hpre ⟨5, .data⟩ (by simp) rfl
        clear hpre ho
        have h9 : l 9 = false := by cases h : l 9 with | false => rfl | true => rw [k9_6 h] at hl; cases hl
        have h12 : l 12 = false := by cases h : l 12 with | false => rfl | true => rw [k12_9 h] at h9; cases h9
        have dd := d5 h5
        subst dd
        obtain rfl : MA = [rowR 93 4 v1 0 []] := by
          rcases mA with ⟨h, _⟩ | ⟨_, _, h⟩ | ⟨h, _⟩ | ⟨h, _⟩
          · rw [h1] at h; cases h
          · exact h
          · rw [hl] at h; cases h
          · rw [h9] at h; cases h
        obtain ⟨u6, w6, hr, S6⟩ : ∃ u w2, (Builtin.append_ #[86, 86] 86 #[v1, (.slice ta D4.length tc)]).run Tryz.prog wx = .ok u w2 ∧ Sp w0 F0 w2 (MB ++ ([rowR 93 4 u (0 + (D4.map Ev.vals).length) ([] ++ (D4.map Ev.vals).flatten)] ++ (boxR x CX 88 :: boxR q #[.int .i64 e.op, .string ⟨e.name.toArray⟩, .string ⟨e.to.toArray⟩, .string ⟨e.data.toArray⟩] 93 :: romR xk :: L))) := by
          rcases mB with ⟨_, g, _, rfl⟩ | ⟨_, rfl⟩
          · obtain ⟨u, w2, h1, S2⟩ := Sp.appendRom 86 86 _ 56 infoEv11 rfl Tryz.underlying86 (by decide) (by decide) HQT.out HL7.out HR1.out (by have := HRN2.out; omega) ((Sp.pick [_, _, _, _, _] [1, 4, 0, 2, 3] (by decide) (S)))
            exact ⟨u, w2, h1, (Sp.pick [_, _, _, _, _] [2, 0, 3, 4, 1] (by decide) (S2))⟩
          · obtain ⟨u, w2, h1, S2⟩ := Sp.appendRom 86 86 _ 56 infoEv11 rfl Tryz.underlying86 (by decide) (by decide) HQT.out HL7.out HR1.out (by have := HRN2.out; omega) ((Sp.pick [_, _, _, _] [0, 3, 1, 2] (by decide) (S)))
            exact ⟨u, w2, h1, (Sp.pick [_, _, _, _] [0, 2, 3, 1] (by decide) (S2))⟩
        refine Oper.wp_mono (K := fun a2 w2 => a2 = (((((((a0.put (some 30) v1).put (some 34) (.slice ta D4.length tc)).put (some 35) v6).put (some 37) v8).put (some 38) v9).put (some 39) v10).put (some 40) v11).put (some 35) u6 ∧ w2 = w6) ?_ ?_
        · rintro a2 w2 ⟨rfl, rfl⟩
          exact ⟨((Sp.pick [_, _] [1] (by decide) ((Sp.drops [_] (Sp.drops MB S6))))).cell, ⟨⟨flag_up (hlp.1), flag_up (hlp.2.1), flag_up (hlp.2.2.1), flag_up (hlp.2.2.2.1), flag_up (hlp.2.2.2.2)⟩, v1, _, _, v8, v9, v10, v11, CX, [_], MB, (by rw [put_turn _ 40 35 _ _ (by decide), put_turn _ 39 35 _ _ (by decide), put_turn _ 38 35 _ _ (by decide), put_turn _ 37 35 _ _ (by decide), put_over]), (fun _ => flag_up h1), (fun _ => flag_up h5), (fun h => by rw [flag_dn (x := 9) rfl h] at h9; cases h9), (fun h => flag_up (k9_8 (flag_dn rfl h))), (fun h => flag_up (k12_9 (flag_dn rfl h))), (fun h => flag_up (k10_9 (flag_dn rfl h))), (fun h => flag_up (k11_10 (flag_dn rfl h))), (fun _ => rfl), (fun h => d10 (flag_dn rfl h)), (fun h => d11 (flag_dn rfl h)), .inr (.inr (.inl ⟨by simp, by simp [h9], rfl⟩)), flag_or rfl mB, flag_or rfl mC, S6⟩⟩
        · refine oper_append_run hop (by rw [evalP_ne _ 40 30 _ (by decide), evalP_ne _ 39 30 _ (by decide), evalP_ne _ 38 30 _ (by decide), evalP_ne _ 37 30 _ (by decide), evalP_ne _ 35 30 _ (by decide), evalP_ne _ 34 30 _ (by decide), evalP_same _ 30 _ (by (try simp only [sizeP]); rw [hsz]; decide)]) (by rw [evalP_ne _ 40 34 _ (by decide), evalP_ne _ 39 34 _ (by decide), evalP_ne _ 38 34 _ (by decide), evalP_ne _ 37 34 _ (by decide), evalP_ne _ 35 34 _ (by decide), evalP_same _ 34 _ (by (try simp only [sizeP]); rw [hsz]; decide)]) (by rw [hg]; exact hr) ?_
          rw [hdn]
          exact ⟨rfl, rfl⟩
      · cases ho
        refine ⟨rfl, ?_⟩
        have h9 : l 9 = false := by cases h : l 9 with | false => rfl | true => rw [k9_8 h] at hl; cases hl
        have h12 : l 12 = false := by cases h : l 12 with | false => rfl | true => rw [k12_9 h] at h9; cases h9
        obtain rfl : MB = [] := by rcases mB with ⟨h, _⟩ | ⟨_, h⟩; rw [hl] at h; cases h; exact h
        have S3 := S.box #[.int .i64 e.op, .string ⟨e.name.toArray⟩, .string ⟨e.to.toArray⟩, .string ⟨e.data.toArray⟩] 93
        refine Oper.wp_mono (K := fun a2 w2 => a2 = (((((((a0.put (some 30) v1).put (some 34) v5).put (some 35) v6).put (some 37) v8).put (some 38) v9).put (some 39) v10).put (some 40) v11).put (some 37) (.slice (some ⟨wx.heap.size, 0, none⟩) 1 1) ∧ w2 = wx.alloc (.cells #[.int .i64 e.op, .string ⟨e.name.toArray⟩, .string ⟨e.to.toArray⟩, .string ⟨e.data.toArray⟩] 93)) ?_ ?_
        · rintro a2 w2 ⟨rfl, rfl⟩
          exact ⟨((Sp.pick [_, _] [1] (by decide) ((Sp.drops MA (Sp.drops [_] S3))))).cell, ⟨⟨flag_up (hlp.1), flag_up (hlp.2.1), flag_up (hlp.2.2.1), flag_up (hlp.2.2.2.1), flag_up (hlp.2.2.2.2)⟩, v1, v5, v6, _, v9, v10, v11, CX, MA, [_], (by rw [put_turn _ 40 37 _ _ (by decide), put_turn _ 39 37 _ _ (by decide), put_turn _ 38 37 _ _ (by decide), put_over]), (fun h => flag_up (k6_1 (flag_dn rfl h))), (fun h => flag_up (k6_5 (flag_dn rfl h))), (fun h => flag_up (k9_6 (flag_dn rfl h))), (fun h => by rw [flag_dn (x := 9) rfl h] at h9; cases h9), (fun h => flag_up (k12_9 (flag_dn rfl h))), (fun h => flag_up (k10_9 (flag_dn rfl h))), (fun h => flag_up (k11_10 (flag_dn rfl h))), (fun h => d5 (flag_dn rfl h)), (fun h => d10 (flag_dn rfl h)), (fun h => d11 (flag_dn rfl h)), flag_rows rfl rfl rfl mA, .inl ⟨by simp, _, rfl, rfl⟩, flag_or rfl mC, S3⟩⟩
        · have es : (((((((a0.put (some 30) v1).put (some 34) v5).put (some 35) v6).put (some 37) v8).put (some 38) v9).put (some 39) v10).put (some 40) v11).eval (.tmp 36) = .agg #[.int .i64 e.op, .string ⟨e.name.toArray⟩, .string ⟨e.to.toArray⟩, .string ⟨e.data.toArray⟩] := by rw [evalP_ne _ 40 36 _ (by decide), evalP_ne _ 39 36 _ (by decide), evalP_ne _ 38 36 _ (by decide), evalP_ne _ 37 36 _ (by decide), evalP_ne _ 35 36 _ (by decide), evalP_ne _ 34 36 _ (by decide), evalP_ne _ 30 36 _ (by decide), e7]
          generalize (((((((a0.put (some 30) v1).put (some 34) v5).put (some 35) v6).put (some 37) v8).put (some 38) v9).put (some 39) v10).put (some 40) v11) = a1 at *
          have es2 : a1.tmps[36]?.getD undef = .agg #[.int .i64 e.op, .string ⟨e.name.toArray⟩, .string ⟨e.to.toArray⟩, .string ⟨e.data.toArray⟩] := by rw [← Array.getD_eq_getD_getElem?]; exact es
          clear S3 S mA mB mC k6_1 k6_5 k9_6 k9_8 k12_9 k10_9 k11_10 d5 d10 d11 hpre hlp es
          go_simp
      · obtain ⟨hop, hdn, hg⟩ : o.op = .call { callee := .builtin .append, args := #[.tmp 35, .tmp 37], argTypes := #[86, 86] } ∧ o.dst = some 38 ∧ o.type = 86 := by cases ho; exact ⟨by kernel_rfl, by kernel_rfl, by kernel_rfl⟩
        refine ⟨by cases ho; rfl, ?_⟩
        have h6 : l 6 = true := by cases ho; exact hpre ⟨6, .data⟩ (by simp) rfl
        have h8 : l 8 = true := by cases ho; exact hpre ⟨8, .data⟩ (by simp) rfl
        clear hpre ho
        have h12 : l 12 = false := by cases h : l 12 with | false => rfl | true => rw [k12_9 h] at hl; cases hl
        obtain rfl : MA = [rowR 93 4 v6 (0 + (D4.map Ev.vals).length) ([] ++ (D4.map Ev.vals).flatten)] := by rcases mA with ⟨h, _⟩ | ⟨_, h, _⟩ | ⟨_, _, h⟩ | ⟨h, _⟩ <;> first | exact h | (exfalso; have := k6_1 h6; simp_all; done)
        rcases mB with ⟨_, g, rfl, rfl⟩ | ⟨h, _⟩
        · obtain ⟨g9, cap9, w9, hr, S9⟩ := Sp.appendOne 86 86 #[.int .i64 e.op, .string ⟨e.name.toArray⟩, .string ⟨e.to.toArray⟩, .string ⟨e.data.toArray⟩] _ 56 infoEv11 rfl Tryz.underlying86 (by decide) (by decide) rfl (by simp [Value.oneCell']) (by have := HRN2.out; omega) S
          refine Oper.wp_mono (K := fun a2 w2 => a2 = (((((((a0.put (some 30) v1).put (some 34) v5).put (some 35) v6).put (some 37) (.slice (some ⟨g, 0, none⟩) 1 1)).put (some 38) v9).put (some 39) v10).put (some 40) v11).put (some 38) (.slice (some ⟨g9, 0, none⟩) (0 + (D4.map Ev.vals).length + 1) cap9) ∧ w2 = w9) ?_ ?_
          · rintro a2 w2 ⟨rfl, rfl⟩
            exact ⟨((Sp.pick [_, _] [1] (by decide) ((Sp.drops [_] (Sp.drops [_] S9))))).cell, ⟨⟨flag_up (hlp.1), flag_up (hlp.2.1), flag_up (hlp.2.2.1), flag_up (hlp.2.2.2.1), flag_up (hlp.2.2.2.2)⟩, v1, v5, v6, _, _, v10, v11, CX, [_], [_], (by rw [put_turn _ 40 38 _ _ (by decide), put_turn _ 39 38 _ _ (by decide), put_over]), (fun h => flag_up (k6_1 (flag_dn rfl h))), (fun h => flag_up (k6_5 (flag_dn rfl h))), (fun _ => flag_up h6), (fun _ => flag_up h8), (fun h => by rw [flag_dn (x := 12) rfl h] at h12; cases h12), (fun h => flag_up (k10_9 (flag_dn rfl h))), (fun h => flag_up (k11_10 (flag_dn rfl h))), (fun h => d5 (flag_dn rfl h)), (fun h => d10 (flag_dn rfl h)), (fun h => d11 (flag_dn rfl h)), .inr (.inr (.inr ⟨by simp, ⟨_, _, rfl⟩, rfl⟩)), .inl ⟨flag_up h8, _, rfl, rfl⟩, (by rcases mC with ⟨h, _⟩ | ⟨_, h⟩; rw [h12] at h; cases h; exact .inr ⟨by simp [h12], h⟩), S9⟩⟩
          · refine oper_append_run hop (by rw [evalP_ne _ 40 35 _ (by decide), evalP_ne _ 39 35 _ (by decide), evalP_ne _ 38 35 _ (by decide), evalP_ne _ 37 35 _ (by decide), evalP_same _ 35 _ (by (try simp only [sizeP]); rw [hsz]; decide)]) (by rw [evalP_ne _ 40 37 _ (by decide), evalP_ne _ 39 37 _ (by decide), evalP_ne _ 38 37 _ (by decide), evalP_same _ 37 _ (by (try simp only [sizeP]); rw [hsz]; decide)]) (by rw [hg]; exact hr) ?_
            rw [hdn]
            exact ⟨rfl, rfl⟩
        · rw [h8] at h; cases h
      · cases ho
        refine ⟨rfl, ?_⟩
        have h9 : l 9 = true := hpre ⟨9, .phase⟩ (by simp) rfl
        refine Oper.wp_mono (K := fun a2 w2 => a2 = (((((((a0.put (some 30) v1).put (some 34) v5).put (some 35) v6).put (some 37) v8).put (some 38) v9).put (some 39) v10).put (some 40) v11).put (some 39) (.pointer (some ⟨x, 0, none⟩)) ∧ w2 = wx) ?_ ?_
        · rintro a2 w2 ⟨rfl, rfl⟩
          exact ⟨((Sp.pick [_, _] [1] (by decide) ((Sp.drops MA (Sp.drops MB S))))).cell, ⟨⟨flag_up (hlp.1), flag_up (hlp.2.1), flag_up (hlp.2.2.1), flag_up (hlp.2.2.2.1), flag_up (hlp.2.2.2.2)⟩, v1, v5, v6, v8, v9, _, v11, CX, MA, MB, (by rw [put_turn _ 40 39 _ _ (by decide), put_over]), (fun h => flag_up (k6_1 (flag_dn rfl h))), (fun h => flag_up (k6_5 (flag_dn rfl h))), (fun h => flag_up (k9_6 (flag_dn rfl h))), (fun h => flag_up (k9_8 (flag_dn rfl h))), (fun h => flag_up (k12_9 (flag_dn rfl h))), (fun _ => flag_up h9), (fun h => flag_up (k11_10 (flag_dn rfl h))), (fun h => d5 (flag_dn rfl h)), (fun _ => rfl), (fun h => d11 (flag_dn rfl h)), flag_rows rfl rfl rfl mA, flag_or rfl mB, flag_or rfl mC, S⟩⟩
        · have es : (((((((a0.put (some 30) v1).put (some 34) v5).put (some 35) v6).put (some 37) v8).put (some 38) v9).put (some 39) v10).put (some 40) v11).eval (.tmp 29) = .pointer (some ⟨x, 0, none⟩) := by rw [evalP_ne _ 40 29 _ (by decide), evalP_ne _ 39 29 _ (by decide), evalP_ne _ 38 29 _ (by decide), evalP_ne _ 37 29 _ (by decide), evalP_ne _ 35 29 _ (by decide), evalP_ne _ 34 29 _ (by decide), evalP_ne _ 30 29 _ (by decide), e0]
          generalize (((((((a0.put (some 30) v1).put (some 34) v5).put (some 35) v6).put (some 37) v8).put (some 38) v9).put (some 39) v10).put (some 40) v11) = a1 at *
          have es2 : a1.tmps[29]?.getD undef = .pointer (some ⟨x, 0, none⟩) := by rw [← Array.getD_eq_getD_getElem?]; exact es
          clear S mA mB mC k6_1 k6_5 k9_6 k9_8 k12_9 k10_9 k11_10 d5 d11 hpre hlp es
          go_simp
      · cases ho
        refine ⟨rfl, ?_⟩
        have h10 : l 10 = true := hpre ⟨10, .data⟩ (by simp) rfl
        have dd := d10 h10
        subst dd
        refine Oper.wp_mono (K := fun a2 w2 => a2 = (((((((a0.put (some 30) v1).put (some 34) v5).put (some 35) v6).put (some 37) v8).put (some 38) v9).put (some 39) (.pointer (some ⟨x, 0, none⟩))).put (some 40) v11).put (some 40) (.pointer (some ⟨x, 3, none⟩)) ∧ w2 = wx) ?_ ?_
        · rintro a2 w2 ⟨rfl, rfl⟩
          exact ⟨((Sp.pick [_, _] [1] (by decide) ((Sp.drops MA (Sp.drops MB S))))).cell, ⟨⟨flag_up (hlp.1), flag_up (hlp.2.1), flag_up (hlp.2.2.1), flag_up (hlp.2.2.2.1), flag_up (hlp.2.2.2.2)⟩, v1, v5, v6, v8, v9, _, _, CX, MA, MB, (by rw [put_over]), (fun h => flag_up (k6_1 (flag_dn rfl h))), (fun h => flag_up (k6_5 (flag_dn rfl h))), (fun h => flag_up (k9_6 (flag_dn rfl h))), (fun h => flag_up (k9_8 (flag_dn rfl h))), (fun h => flag_up (k12_9 (flag_dn rfl h))), (fun h => flag_up (k10_9 (flag_dn rfl h))), (fun _ => flag_up h10), (fun h => d5 (flag_dn rfl h)), (fun _ => rfl), (fun _ => rfl), flag_rows rfl rfl rfl mA, flag_or rfl mB, flag_or rfl mC, S⟩⟩
        · have es : (((((((a0.put (some 30) v1).put (some 34) v5).put (some 35) v6).put (some 37) v8).put (some 38) v9).put (some 39) (.pointer (some ⟨x, 0, none⟩))).put (some 40) v11).eval (.tmp 39) = .pointer (some ⟨x, 0, none⟩) := by rw [evalP_ne _ 40 39 _ (by decide), evalP_same _ 39 _ (by (try simp only [sizeP]); rw [hsz]; decide)]
          generalize (((((((a0.put (some 30) v1).put (some 34) v5).put (some 35) v6).put (some 37) v8).put (some 38) v9).put (some 39) (.pointer (some ⟨x, 0, none⟩))).put (some 40) v11) = a1 at *
          have es2 : a1.tmps[39]?.getD undef = .pointer (some ⟨x, 0, none⟩) := by rw [← Array.getD_eq_getD_getElem?]; exact es
          clear S mA mB mC k6_1 k6_5 k9_6 k9_8 k12_9 k10_9 k11_10 d5 d11 hpre hlp es
          go_simp
      · obtain ⟨hop, hdn⟩ : o.op = .store 86 (.tmp 40) (.tmp 38) ∧ o.dst = none := by cases ho; exact ⟨by kernel_rfl, by kernel_rfl⟩
        refine ⟨by cases ho; rfl, ?_⟩
        have h9 : l 9 = true := by cases ho; exact hpre ⟨9, .data⟩ (by simp) rfl
        have h11 : l 11 = true := by cases ho; exact hpre ⟨11, .data⟩ (by simp) rfl
        clear hpre ho
        have dd := d11 h11
        subst dd
        obtain rfl : CX = #[.slice na D1.length nc, xs, .slice pa D3.length pc, .slice ta D4.length tc, .int .i64 D5, .int .i64 df, .bool false] := by rcases mC with ⟨h, _⟩ | ⟨_, h⟩; rw [hl] at h; cases h; exact h
        rcases mB with ⟨_, g8, rfl, rfl⟩ | ⟨h, _⟩
        · obtain ⟨⟨g, cap, rfl⟩, rfl⟩ : (∃ g cap, v9 = .slice (some ⟨g, 0, none⟩) (0 + (D4.map Ev.vals).length + 1) cap) ∧ MA = [rowR 93 4 v9 (0 + (D4.map Ev.vals).length + 1) ([] ++ (D4.map Ev.vals).flatten ++ (#[.int .i64 e.op, .string ⟨e.name.toArray⟩, .string ⟨e.to.toArray⟩, .string ⟨e.data.toArray⟩] : Array Value).toList)] := by
            rcases mA with ⟨h, _⟩ | ⟨_, h, _⟩ | ⟨_, h, _⟩ | ⟨_, h⟩
            · have := k6_1 (k9_6 h9); rw [h] at this; cases this
            · have := k9_6 h9; rw [h] at this; cases this
            · rw [h] at h9; cases h9
            · exact h
          have S2 := S.pull2
          have S3 := (S2.set (o := 3) (.slice (some ⟨g, 0, none⟩) (0 + (D4.map Ev.vals).length + 1) cap)).push2
          refine Oper.wp_mono (K := fun a2 w2 => a2 = (((((((a0.put (some 30) v1).put (some 34) v5).put (some 35) v6).put (some 37) (.slice (some ⟨g8, 0, none⟩) 1 1)).put (some 38) (.slice (some ⟨g, 0, none⟩) (0 + (D4.map Ev.vals).length + 1) cap)).put (some 39) v10).put (some 40) (.pointer (some ⟨x, 3, none⟩))) ∧ w2 = wx.setCell ⟨x, 3, none⟩ (.slice (some ⟨g, 0, none⟩) (0 + (D4.map Ev.vals).length + 1) cap)) ?_ ?_
          · rintro a2 w2 ⟨rfl, rfl⟩
            exact ⟨((Sp.pick [_, _] [1] (by decide) ((Sp.drops [_] (Sp.drops [_] S3))))).cell, ⟨⟨flag_up (hlp.1), flag_up (hlp.2.1), flag_up (hlp.2.2.1), flag_up (hlp.2.2.2.1), flag_up (hlp.2.2.2.2)⟩, v1, v5, v6, _, _, v10, _, _, [_], [_], (rfl), (fun h => flag_up (k6_1 (flag_dn rfl h))), (fun h => flag_up (k6_5 (flag_dn rfl h))), (fun h => flag_up (k9_6 (flag_dn rfl h))), (fun h => flag_up (k9_8 (flag_dn rfl h))), (fun _ => flag_up h9), (fun h => flag_up (k10_9 (flag_dn rfl h))), (fun h => flag_up (k11_10 (flag_dn rfl h))), (fun h => d5 (flag_dn rfl h)), (fun h => d10 (flag_dn rfl h)), (fun _ => rfl), .inr (.inr (.inr ⟨flag_up h9, ⟨_, _, rfl⟩, rfl⟩)), .inl ⟨flag_up (k9_8 h9), _, rfl, rfl⟩, .inl ⟨by simp, rfl⟩, S3⟩⟩
          · have es : (((((((a0.put (some 30) v1).put (some 34) v5).put (some 35) v6).put (some 37) (.slice (some ⟨g8, 0, none⟩) 1 1)).put (some 38) (.slice (some ⟨g, 0, none⟩) (0 + (D4.map Ev.vals).length + 1) cap)).put (some 39) v10).put (some 40) (.pointer (some ⟨x, 3, none⟩))).eval (.tmp 40) = .pointer (some ⟨x, 3, none⟩) := by rw [evalP_same _ 40 _ (by (try simp only [sizeP]); rw [hsz]; decide)]
            have er : (((((((a0.put (some 30) v1).put (some 34) v5).put (some 35) v6).put (some 37) (.slice (some ⟨g8, 0, none⟩) 1 1)).put (some 38) (.slice (some ⟨g, 0, none⟩) (0 + (D4.map Ev.vals).length + 1) cap)).put (some 39) v10).put (some 40) (.pointer (some ⟨x, 3, none⟩))).eval (.tmp 38) = (.slice (some ⟨g, 0, none⟩) (0 + (D4.map Ev.vals).length + 1) cap) := by rw [evalP_ne _ 40 38 _ (by decide), evalP_ne _ 39 38 _ (by decide), evalP_same _ 38 _ (by (try simp only [sizeP]); rw [hsz]; decide)]
            generalize (((((((a0.put (some 30) v1).put (some 34) v5).put (some 35) v6).put (some 37) (.slice (some ⟨g8, 0, none⟩) 1 1)).put (some 38) (.slice (some ⟨g, 0, none⟩) (0 + (D4.map Ev.vals).length + 1) cap)).put (some 39) v10).put (some 40) (.pointer (some ⟨x, 3, none⟩))) = a1 at *
            have es2 : a1.tmps[40]?.getD undef = .pointer (some ⟨x, 3, none⟩) := by rw [← Array.getD_eq_getD_getElem?]; exact es
            have er2 : a1.tmps[38]?.getD undef = (.slice (some ⟨g, 0, none⟩) (0 + (D4.map Ev.vals).length + 1) cap) := by rw [← Array.getD_eq_getD_getElem?]; exact er
            have cc := S2.cell
            have ff := S2.free
            clear S3 S2 S mA mC k6_1 k6_5 k9_6 k9_8 k12_9 k10_9 k11_10 d5 d10 d11 hlp es er
            obtain ⟨oop, ogd, odst, oty, oaf, opos⟩ := o
            dsimp only at hop hdn
            subst hop
            subst hdn
            go_simp
        · have := k9_8 h9; rw [h] at this; cases this
    · rintro l a wx hl ⟨hlp, v1, v5, v6, v8, v9, v10, v11, CX, MA, MB, rfl, k6_1, k6_5, k9_6, k9_8, k12_9, k10_9, k11_10, d5, d10, d11, mA, mB, mC, S⟩
      have h8 := hl 8 (by decide)
      have h9 := hl 9 (by decide)
      have h10 := hl 10 (by decide)
      have h11 := hl 11 (by decide)
      have h12 := hl 12 (by decide)
      have dd := d10 h10
      subst dd
      have dd := d11 h11
      subst dd
      rcases mB with ⟨_, g8, rfl, rfl⟩ | ⟨h, _⟩
      · obtain ⟨⟨g, cap, rfl⟩, rfl⟩ : (∃ g cap, v9 = .slice (some ⟨g, 0, none⟩) (0 + (D4.map Ev.vals).length + 1) cap) ∧ MA = [rowR 93 4 v9 (0 + (D4.map Ev.vals).length + 1) ([] ++ (D4.map Ev.vals).flatten ++ (#[.int .i64 e.op, .string ⟨e.name.toArray⟩, .string ⟨e.to.toArray⟩, .string ⟨e.data.toArray⟩] : Array Value).toList)] := by
          rcases mA with ⟨h, _⟩ | ⟨_, h, _⟩ | ⟨_, h, _⟩ | ⟨_, h⟩
          · have := k6_1 (k9_6 h9); rw [h] at this; cases this
          · have := k9_6 h9; rw [h] at this; cases this
          · rw [h] at h9; cases h9
          · exact h
        obtain rfl : CX = _ := by rcases mC with ⟨_, h⟩ | ⟨h, _⟩; exact h; rw [h12] at h; cases h
        have SE : Sp w0 F0 wx (rowR 93 4 (.slice (some ⟨g, 0, none⟩) (0 + (D4.map Ev.vals).length + 1) cap) (0 + (D4.map Ev.vals).length + 1) ([] ++ (D4.map Ev.vals).flatten ++ (#[.int .i64 e.op, .string ⟨e.name.toArray⟩, .string ⟨e.to.toArray⟩, .string ⟨e.data.toArray⟩] : Array Value).toList) :: boxR x (((#[.slice na D1.length nc, xs, .slice pa D3.length pc, .slice ta D4.length tc, .int .i64 D5, .int .i64 df, .bool false] : Array Value).setIfInBounds 3 (.slice (some ⟨g, 0, none⟩) (0 + (D4.map Ev.vals).length + 1) cap))) 88 :: boxR q #[.int .i64 e.op, .string ⟨e.name.toArray⟩, .string ⟨e.to.toArray⟩, .string ⟨e.data.toArray⟩] 93 :: romR xk :: L) := S.drop
        have HSE := Lib.hid SE
        clear S SE mA mC k6_1 k6_5 k9_6 k9_8 k12_9 k10_9 k11_10 d5 d10 d11 hlp hl h8 h9 h12
        rw [← hA]
        clear e4 e7 e0 hsz hA
        simp only [Act.put, List.setIfInBounds_toArray, List.set_cons_zero, List.set_cons_succ]
        have S3 := ev_more ((Sp.pick [_, _, _, _] [0, 3, 1, 2] (by decide) (HSE.out)))
        simp only [List.setIfInBounds_toArray, List.set_cons_zero, List.set_cons_succ] at S3
        obtain ⟨yt, hyt⟩ : ∃ yt : Value, yt = .slice (some ⟨g, 0, none⟩) (0 + (D4.map Ev.vals).length + 1) cap := ⟨_, rfl⟩
        rw [← hyt] at S3 ⊢
        clear hyt
        have HS3 := Lib.hid S3
        have c := S3.pull1.cell
        have f := S3.pull1.free
        have cq := ((Sp.pick [_, _, _] [2] (by decide) (S3))).cell
        clear S3 HSE hS0 HL7 HR1 HRN2 HQT
        by_cases h5 : e.op = 5
        · have HD5 := Lib.hid (HDN.out.trans (if_pos h5))
          clear HDN
          go_wp2_with fail
          go_ret
          rw [HD5.out]
          dsimp only
          rw [← HDF.out]
          refine ⟨rfl, Sp.rdShut (X := ⟨.slice na D1.length nc, .slice na D1.length nc, .slice none 0 0, yt, evK (.slice none 0 0) [] :: (evK yt (D4 ++ [e]) :: xk)⟩) ⟨List.mem_cons_of_mem _ (List.mem_cons_of_mem _ HX.out.now), List.mem_cons_of_mem _ (List.mem_cons_of_mem _ HX.out.now), List.mem_cons_self, List.mem_cons_of_mem _ List.mem_cons_self, HX.out.snow, HX.out.snow⟩ ?_⟩
          have S4 := ((((Sp.pick [_, _, _] [1, 0] (by decide) (HS3.out))).set (o := 1) (.slice na D1.length nc)).set (o := 2) (.slice none 0 0))
          exact (Sp.romMore (rows := []) (S4.pull1.rowNil 93 4) (by simp)).pull1
        · have HD5 := Lib.hid (HDN.out.trans (if_neg h5))
          clear HDN f
          have HDO := Lib.hid (fun (W : World) (L' : List Res) (S : Sp w0 F0 W (romR (evK yt (D4 ++ [e]) :: xk) :: L')) => rDoF D1 e HFN.out HX.out.snow HDT.out S (List.mem_cons_of_mem _ HX.out.now))
          go_upto_region 12 with (fail)
          clear c cq
          refine wp_region_chainG [0, 1, 2, 3, 4, 5, 6, 7, 8, 9] (fun c => c == 6 || c == 9) (fun c => c == 9) (T := fun wx => (∀ o, wx.cell? ⟨x, o, none⟩ = (#[.slice na D1.length nc, xs, .slice pa D3.length pc, yt, .int .i64 D5, .int .i64 df, .bool false] : Array Value)[o]?) ∧ (∀ o, wx.cell? ⟨q, o, none⟩ = (#[.int .i64 e.op, .string ⟨e.name.toArray⟩, .string ⟨e.to.toArray⟩, .string ⟨e.data.toArray⟩] : Array Value)[o]?)) (S := fun wx => Sp w0 F0 wx (romR (evK yt (D4 ++ [e]) :: xk) :: boxR x #[.slice na D1.length nc, xs, .slice pa D3.length pc, yt, .int .i64 D5, .int .i64 df, .bool false] 88 :: boxR q #[.int .i64 e.op, .string ⟨e.name.toArray⟩, .string ⟨e.to.toArray⟩, .string ⟨e.data.toArray⟩] 93 :: L)) (by kernel_rfl) (by kernel_rfl) (by kernel_rfl) HS3.out.drew (fun x h => ⟨h.pull1.cell, ((Sp.pick [_, _, _] [2] (by decide) (h))).cell⟩) ?_
          repeat
            refine Exists.intro _ (And.intro rfl (Or.inl (Exists.intro ?_ (And.intro (fun wS hS K hK => ?_) (And.intro ?_ ?_)))))
            rotate_left 1
            · obtain ⟨t0, t1⟩ := hS
              first
                | (refine if_unwanted rfl ?_; simp only [Act.put, List.setIfInBounds_toArray, List.set_cons_zero, List.set_cons_succ]; exact hK.out)
                | (refine if_wanted rfl ?_; go_simp; exact hK.out)
            · rfl
          refine ChainG.one rfl rfl rfl (fun wS hS R hR => ?_)
          go_simp
          go_at_call 68
          refine (HDO.out _ _ hS).mono ?_
          rintro e w7 ⟨ua, uc, rfl, S7⟩
          refine hR.out _ _ rfl (fun wx => (∀ o, wx.cell? ⟨x, o, none⟩ = (#[.slice na D1.length nc, xs, .slice pa D3.length pc, yt, .int .i64 D5, .int .i64 df, .bool false] : Array Value)[o]?) ∧ (∀ o, wx.cell? ⟨q, o, none⟩ = (#[.int .i64 e.op, .string ⟨e.name.toArray⟩, .string ⟨e.to.toArray⟩, .string ⟨e.data.toArray⟩] : Array Value)[o]?)) (fun wx => Sp w0 F0 wx (romR (fsK (.slice ua (D1.did e).length uc) (D1.did e) :: evK yt (D4 ++ [e]) :: xk) :: boxR x #[.slice na D1.length nc, xs, .slice pa D3.length pc, yt, .int .i64 D5, .int .i64 df, .bool false] 88 :: boxR q #[.int .i64 e.op, .string ⟨e.name.toArray⟩, .string ⟨e.to.toArray⟩, .string ⟨e.data.toArray⟩] 93 :: L)) S7 (fun x h => ⟨h.pull1.cell, ((Sp.pick [_, _, _] [2] (by decide) (h))).cell⟩) (fun _ h => h) ?_
          clear hR hS S7
          repeat
            refine Exists.intro _ (And.intro rfl (Or.inl (Exists.intro ?_ (And.intro (fun wS hS K hK => ?_) (And.intro ?_ ?_)))))
            rotate_left 1
            · obtain ⟨t0, t1⟩ := hS
              first
                | (refine if_unwanted rfl ?_; simp only [Act.put, List.setIfInBounds_toArray, List.set_cons_zero, List.set_cons_succ]; exact hK.out)
                | (refine if_wanted rfl ?_; go_simp; exact hK.out)
            · rfl
          refine ChainG.two rfl rfl rfl rfl (fun wS hS R hR => ?_)
          have cc := hS.pull1.cell
          have ff := hS.pull1.free
          go_simp
          refine hR.out _ _ rfl (fun wx => True) (fun wx => Sp w0 F0 wx (boxR x ((#[.slice na D1.length nc, xs, .slice pa D3.length pc, yt, .int .i64 D5, .int .i64 df, .bool false] : Array Value).setIfInBounds 0 (.slice ua (D1.did e).length uc)) 88 :: boxR q #[.int .i64 e.op, .string ⟨e.name.toArray⟩, .string ⟨e.to.toArray⟩, .string ⟨e.data.toArray⟩] 93 :: romR (fsK (.slice ua (D1.did e).length uc) (D1.did e) :: evK yt (D4 ++ [e]) :: xk) :: L)) (Sp.pick [_, _, _] [0, 2, 1] (by decide) ((hS.pull1.set (o := 0) (.slice ua (D1.did e).length uc)))) (fun _ _ => trivial)  ?_
          clear hR
          repeat
            refine Exists.intro _ (And.intro rfl (Or.inl (Exists.intro ?_ (And.intro (fun wS hS K hK => ?_) (And.intro ?_ ?_)))))
            rotate_left 1
            · have t0 := hS
              first
                | (refine if_unwanted rfl ?_; simp only [Act.put, List.setIfInBounds_toArray, List.set_cons_zero, List.set_cons_succ]; exact hK.out)
                | (refine if_wanted rfl ?_; go_simp; exact hK.out)
            · rfl
          intro wE hE
          have HSE := Lib.hid hE
          clear hE
          have S3 := HSE.out
          simp only [List.setIfInBounds_toArray, List.set_cons_zero, List.set_cons_succ] at S3
          have HS4 := Lib.hid S3
          clear S3 HSE HS3 HDO
          have HL7 := Lib.hid (ev_len (l := D3))
          have HR1 := Lib.hid (ev_one (l := D3))
          have HQP : Hid (evK (.slice pa D3.length pc) D3 ∈ (fsK (.slice ua (D1.did e).length uc) (D1.did e) :: evK yt (D4 ++ [e]) :: xk)) := List.mem_cons_of_mem _ (List.mem_cons_of_mem _ HX.out.pend)
          have HRN2 : Hid ((D3.map Ev.vals).length < 1000000000) := by rw [List.length_map]; exact HPN.out
          go_upto_region 13 with (fail)
          refine wp_region_held (S := fun wx => ∀ o, wx.cell? ⟨q, o, none⟩ = (#[.int .i64 e.op, .string ⟨e.name.toArray⟩, .string ⟨e.to.toArray⟩, .string ⟨e.data.toArray⟩] : Array Value)[o]?) (by kernel_rfl) ?_
          have hS0 := ((Sp.pick [_, _] [1] (by decide) (HS4.out.drew))).cell
          refine wpAnyH_takeD (i := 0) 63 (v := ?_) rfl rfl (by kernel_rfl) (by kernel_rfl) (by kernel_rfl) (fun _ _ _ h => h) (Or.inl ⟨by rfl, ?_⟩) hS0 ?_
          rotate_left 1
          · intro wS s0
            go_simp
            try with_reducible rfl
          simp only [Act.put, List.setIfInBounds_toArray, List.set_cons_zero, List.set_cons_succ]
          refine wpAnyH_takeD (i := 2) 65 (v := ?_) rfl rfl (by kernel_rfl) (by kernel_rfl) (by kernel_rfl) (fun _ _ _ h => h) (Or.inl ⟨by rfl, ?_⟩) hS0 ?_
          rotate_left 1
          · intro wS s0
            go_simp
            try with_reducible rfl
          simp only [Act.put, List.setIfInBounds_toArray, List.set_cons_zero, List.set_cons_succ]
          refine wpAnyH_takeD (i := 3) 66 (v := ?_) rfl rfl (by kernel_rfl) (by kernel_rfl) (by kernel_rfl) (fun _ _ _ h => h) (Or.inl ⟨by rfl, ?_⟩) hS0 ?_
          rotate_left 1
          · intro wS s0
            go_simp
            try with_reducible rfl
          simp only [Act.put, List.setIfInBounds_toArray, List.set_cons_zero, List.set_cons_succ]
          refine wpAnyH_takeD (i := 4) 67 (v := ?_) rfl rfl (by kernel_rfl) (by kernel_rfl) (by kernel_rfl) (fun _ _ _ h => h) (Or.inl ⟨by rfl, ?_⟩) hS0 ?_
          rotate_left 1
          · intro wS s0
            go_simp
            try with_reducible rfl
          simp only [Act.put, List.setIfInBounds_toArray, List.set_cons_zero, List.set_cons_succ]
          refine wpAnyH_takeD (i := 7) 70 (v := ?_) rfl rfl (by kernel_rfl) (by kernel_rfl) (by kernel_rfl) (fun _ _ _ h => h) (Or.inl ⟨by rfl, ?_⟩) hS0 ?_
          rotate_left 1
          · intro wS s0
            go_simp
            try with_reducible rfl
          simp only [Act.put, List.setIfInBounds_toArray, List.set_cons_zero, List.set_cons_succ]
          refine wpAnyH_gen (fun a0 hA => ?_)
          have hsz : a0.tmps.size = 75 := by rw [← hA]; rfl
          have e4 : a0.eval (.tmp 67) = .pointer (some ⟨x, 2, none⟩) := by rw [← hA]; rfl
          have e7 : a0.eval (.tmp 70) = .agg #[.int .i64 e.op, .string ⟨e.name.toArray⟩, .string ⟨e.to.toArray⟩, .string ⟨e.data.toArray⟩] := by rw [← hA]; rfl
          have e0 : a0.eval (.tmp 63) = .pointer (some ⟨x, 0, none⟩) := by rw [← hA]; rfl
          refine wpAnyH_inv (by kernel_rfl) (fun l a wx => (l 0 = true ∧ l 2 = true ∧ l 3 = true ∧ l 4 = true ∧ l 7 = true) ∧ ∃ (v1 v5 v6 v8 v9 v10 v11 : Value) (CX : Array Value) (MA MB : List Res), a = (((((((a0.put (some 64) v1).put (some 68) v5).put (some 69) v6).put (some 71) v8).put (some 72) v9).put (some 73) v10).put (some 74) v11) ∧ (l 6 = true → l 1 = true) ∧ (l 6 = true → l 5 = true) ∧ (l 9 = true → l 6 = true) ∧ (l 9 = true → l 8 = true) ∧ (l 12 = true → l 9 = true) ∧ (l 10 = true → l 9 = true) ∧ (l 11 = true → l 10 = true) ∧ (l 5 = true → v5 = (.slice pa D3.length pc)) ∧ (l 10 = true → v10 = .pointer (some ⟨x, 0, none⟩)) ∧ (l 11 = true → v11 = .pointer (some ⟨x, 2, none⟩)) ∧ ((l 1 = false ∧ MA = []) ∨ (l 1 = true ∧ l 6 = false ∧ MA = [rowR 93 4 v1 0 []]) ∨ (l 6 = true ∧ l 9 = false ∧ MA = [rowR 93 4 v6 (0 + (D3.map Ev.vals).length) ([] ++ (D3.map Ev.vals).flatten)]) ∨ (l 9 = true ∧ (∃ g cap, v9 = .slice (some ⟨g, 0, none⟩) (0 + (D3.map Ev.vals).length + 1) cap) ∧ MA = [rowR 93 4 v9 (0 + (D3.map Ev.vals).length + 1) ([] ++ (D3.map Ev.vals).flatten ++ (#[.int .i64 e.op, .string ⟨e.name.toArray⟩, .string ⟨e.to.toArray⟩, .string ⟨e.data.toArray⟩] : Array Value).toList)])) ∧ ((l 8 = true ∧ ∃ g, v8 = .slice (some ⟨g, 0, none⟩) 1 1 ∧ MB = [boxR g #[.int .i64 e.op, .string ⟨e.name.toArray⟩, .string ⟨e.to.toArray⟩, .string ⟨e.data.toArray⟩] 93]) ∨ (l 8 = false ∧ MB = [])) ∧ ((l 12 = true ∧ CX = (#[.slice ua (D1.did e).length uc, xs, .slice pa D3.length pc, yt, .int .i64 D5, .int .i64 df, .bool false] : Array Value).setIfInBounds 2 v9) ∨ (l 12 = false ∧ CX = #[.slice ua (D1.did e).length uc, xs, .slice pa D3.length pc, yt, .int .i64 D5, .int .i64 df, .bool false])) ∧ Sp w0 F0 wx (MB ++ (MA ++ (boxR x CX 88 :: boxR q #[.int .i64 e.op, .string ⟨e.name.toArray⟩, .string ⟨e.to.toArray⟩, .string ⟨e.data.toArray⟩] 93 :: romR (fsK (.slice ua (D1.did e).length uc) (D1.did e) :: evK yt (D4 ++ [e]) :: xk) :: L)))) ?_ ?_ _ _ _ _ (by kernel_rfl) (by kernel_rfl) ?_
          · rintro l a wx i o ⟨hlp, v1, v5, v6, v8, v9, v10, v11, CX, MA, MB, rfl, k6_1, k6_5, k9_6, k9_8, k12_9, k10_9, k11_10, d5, d10, d11, mA, mB, mC, S⟩ ho hl hpre
            have hi : i = 1 ∨ i = 5 ∨ i = 6 ∨ i = 8 ∨ i = 9 ∨ i = 10 ∨ i = 11 ∨ i = 12 := by
              have h1 := (Array.getElem?_eq_some_iff.1 ho).1
              simp at h1
              have n0 : i ≠ 0 := by rintro rfl; rw [hlp.1] at hl; cases hl
              have n2 : i ≠ 2 := by rintro rfl; rw [hlp.2.1] at hl; cases hl
              have n3 : i ≠ 3 := by rintro rfl; rw [hlp.2.2.1] at hl; cases hl
              have n4 : i ≠ 4 := by rintro rfl; rw [hlp.2.2.2.1] at hl; cases hl
              have n7 : i ≠ 7 := by rintro rfl; rw [hlp.2.2.2.2] at hl; cases hl
              omega
            rcases hi with rfl | rfl | rfl | rfl | rfl | rfl | rfl | rfl
            · cases ho
              refine ⟨rfl, ?_⟩
              have h6 : l 6 = false := by cases h : l 6 with | false => rfl | true => rw [k6_1 h] at hl; cases hl
              have h9 : l 9 = false := by cases h : l 9 with | false => rfl | true => rw [k9_6 h] at h6; cases h6
              have h12 : l 12 = false := by cases h : l 12 with | false => rfl | true => rw [k12_9 h] at h9; cases h9
              obtain rfl : MA = [] := by rcases mA with ⟨_, h⟩ | ⟨h, _⟩ | ⟨h, _⟩ | ⟨h, _⟩ <;> first | exact h | (exfalso; simp_all; done)
              refine Oper.wp_mono (K := fun a2 w2 => a2 = (((((((a0.put (some 64) v1).put (some 68) v5).put (some 69) v6).put (some 71) v8).put (some 72) v9).put (some 73) v10).put (some 74) v11).put (some 64) (.slice (some ⟨wx.heap.size, 0, none⟩) 0 0) ∧ w2 = wx.alloc (.cells #[] 93)) ?_ ?_
              · rintro a2 w2 ⟨rfl, rfl⟩
                have S2 := S.rowLaid 93 4 0 [] rfl (by unfold maxLen; omega)
                have S3 : Sp w0 F0 (wx.alloc (.cells #[] 93)) (MB ++ ([rowR 93 4 (.slice (some ⟨wx.heap.size, 0, none⟩) 0 0) 0 []] ++ (boxR x CX 88 :: boxR q #[.int .i64 e.op, .string ⟨e.name.toArray⟩, .string ⟨e.to.toArray⟩, .string ⟨e.data.toArray⟩] 93 :: romR (fsK (.slice ua (D1.did e).length uc) (D1.did e) :: evK yt (D4 ++ [e]) :: xk) :: L))) := by
                  rcases mB with ⟨_, g, _, rfl⟩ | ⟨_, rfl⟩
                  · exact S2.pull1
                  · exact S2
                exact ⟨((Sp.pick [_, _] [1] (by decide) ((Sp.drops [_] (Sp.drops MB S3))))).cell, ⟨⟨flag_up (hlp.1), flag_up (hlp.2.1), flag_up (hlp.2.2.1), flag_up (hlp.2.2.2.1), flag_up (hlp.2.2.2.2)⟩, _, v5, v6, v8, v9, v10, v11, CX, [_], MB, (by rw [put_turn _ 74 64 _ _ (by decide), put_turn _ 73 64 _ _ (by decide), put_turn _ 72 64 _ _ (by decide), put_turn _ 71 64 _ _ (by decide), put_turn _ 69 64 _ _ (by decide), put_turn _ 68 64 _ _ (by decide), put_over]), (fun h => by rw [flag_dn (x := 6) rfl h] at h6; cases h6), (fun h => flag_up (k6_5 (flag_dn rfl h))), (fun h => flag_up (k9_6 (flag_dn rfl h))), (fun h => flag_up (k9_8 (flag_dn rfl h))), (fun h => flag_up (k12_9 (flag_dn rfl h))), (fun h => flag_up (k10_9 (flag_dn rfl h))), (fun h => flag_up (k11_10 (flag_dn rfl h))), (fun h => d5 (flag_dn rfl h)), (fun h => d10 (flag_dn rfl h)), (fun h => d11 (flag_dn rfl h)), .inr (.inl ⟨by simp, by simp [h6], rfl⟩), flag_or rfl mB, flag_or rfl mC, S3⟩⟩
              · generalize (((((((a0.put (some 64) v1).put (some 68) v5).put (some 69) v6).put (some 71) v8).put (some 72) v9).put (some 73) v10).put (some 74) v11) = a1 at *
                go_simp
            · cases ho
              refine ⟨rfl, ?_⟩
              have h6 : l 6 = false := by cases h : l 6 with | false => rfl | true => rw [k6_5 h] at hl; cases hl
              have h9 : l 9 = false := by cases h : l 9 with | false => rfl | true => rw [k9_6 h] at h6; cases h6
              have h12 : l 12 = false := by cases h : l 12 with | false => rfl | true => rw [k12_9 h] at h9; cases h9
              obtain rfl : CX = #[.slice ua (D1.did e).length uc, xs, .slice pa D3.length pc, yt, .int .i64 D5, .int .i64 df, .bool false] := by rcases mC with ⟨h, _⟩ | ⟨_, h⟩; rw [h12] at h; cases h; exact h
              have cc := (Sp.drops MA (Sp.drops MB S)).cell 2
              refine Oper.wp_mono (K := fun a2 w2 => a2 = (((((((a0.put (some 64) v1).put (some 68) v5).put (some 69) v6).put (some 71) v8).put (some 72) v9).put (some 73) v10).put (some 74) v11).put (some 68) (.slice pa D3.length pc) ∧ w2 = wx) ?_ ?_
              · rintro a2 w2 ⟨rfl, rfl⟩
                exact ⟨((Sp.pick [_, _] [1] (by decide) ((Sp.drops MA (Sp.drops MB S))))).cell, ⟨⟨flag_up (hlp.1), flag_up (hlp.2.1), flag_up (hlp.2.2.1), flag_up (hlp.2.2.2.1), flag_up (hlp.2.2.2.2)⟩, v1, _, v6, v8, v9, v10, v11, _, MA, MB, (by rw [put_turn _ 74 68 _ _ (by decide), put_turn _ 73 68 _ _ (by decide), put_turn _ 72 68 _ _ (by decide), put_turn _ 71 68 _ _ (by decide), put_turn _ 69 68 _ _ (by decide), put_over]), (fun h => flag_up (k6_1 (flag_dn rfl h))), (fun h => by rw [flag_dn (x := 6) rfl h] at h6; cases h6), (fun h => flag_up (k9_6 (flag_dn rfl h))), (fun h => flag_up (k9_8 (flag_dn rfl h))), (fun h => flag_up (k12_9 (flag_dn rfl h))), (fun h => flag_up (k10_9 (flag_dn rfl h))), (fun h => flag_up (k11_10 (flag_dn rfl h))), (fun _ => rfl), (fun h => d10 (flag_dn rfl h)), (fun h => d11 (flag_dn rfl h)), flag_rows rfl rfl rfl mA, flag_or rfl mB, flag_or rfl mC, S⟩⟩
              · have es : (((((((a0.put (some 64) v1).put (some 68) v5).put (some 69) v6).put (some 71) v8).put (some 72) v9).put (some 73) v10).put (some 74) v11).eval (.tmp 67) = .pointer (some ⟨x, 2, none⟩) := by rw [evalP_ne _ 74 67 _ (by decide), evalP_ne _ 73 67 _ (by decide), evalP_ne _ 72 67 _ (by decide), evalP_ne _ 71 67 _ (by decide), evalP_ne _ 69 67 _ (by decide), evalP_ne _ 68 67 _ (by decide), evalP_ne _ 64 67 _ (by decide), e4]
                generalize (((((((a0.put (some 64) v1).put (some 68) v5).put (some 69) v6).put (some 71) v8).put (some 72) v9).put (some 73) v10).put (some 74) v11) = a1 at *
                have es2 : a1.tmps[67]?.getD undef = .pointer (some ⟨x, 2, none⟩) := by rw [← Array.getD_eq_getD_getElem?]; exact es
                have cc2 : wx.cell? ⟨x, 2, none⟩ = some (.slice pa D3.length pc) := cc
                clear cc S mA mB mC k6_1 k6_5 k9_6 k9_8 k12_9 k10_9 k11_10 d5 d10 d11 hpre hlp es
                go_simp
            · obtain ⟨hop, hdn, hg⟩ : o.op = .call { callee := .builtin .append, args := #[.tmp 64, .tmp 68], argTypes := #[86, 86] } ∧ o.dst = some 69 ∧ o.type = 86 := by cases ho; exact ⟨by kernel_rfl, by kernel_rfl, by kernel_rfl⟩
              refine ⟨by cases ho; rfl, ?_⟩
              have h1 : l 1 = true := by cases ho; exact hpre ⟨1, .data⟩ (by simp) rfl
              have h5 : l 5 = true := by cases ho; exact hpre ⟨5, .data⟩ (by simp) rfl
              clear hpre ho
              have h9 : l 9 = false := by cases h : l 9 with | false => rfl | true => rw [k9_6 h] at hl; cases hl
              have h12 : l 12 = false := by cases h : l 12 with | false => rfl | true => rw [k12_9 h] at h9; cases h9
              have dd := d5 h5
              subst dd
              obtain rfl : MA = [rowR 93 4 v1 0 []] := by
                rcases mA with ⟨h, _⟩ | ⟨_, _, h⟩ | ⟨h, _⟩ | ⟨h, _⟩
                · rw [h1] at h; cases h
                · exact h
                · rw [hl] at h; cases h
                · rw [h9] at h; cases h
              obtain ⟨u6, w6, hr, S6⟩ : ∃ u w2, (Builtin.append_ #[86, 86] 86 #[v1, (.slice pa D3.length pc)]).run Tryz.prog wx = .ok u w2 ∧ Sp w0 F0 w2 (MB ++ ([rowR 93 4 u (0 + (D3.map Ev.vals).length) ([] ++ (D3.map Ev.vals).flatten)] ++ (boxR x CX 88 :: boxR q #[.int .i64 e.op, .string ⟨e.name.toArray⟩, .string ⟨e.to.toArray⟩, .string ⟨e.data.toArray⟩] 93 :: romR (fsK (.slice ua (D1.did e).length uc) (D1.did e) :: evK yt (D4 ++ [e]) :: xk) :: L))) := by
                rcases mB with ⟨_, g, _, rfl⟩ | ⟨_, rfl⟩
                · obtain ⟨u, w2, h1, S2⟩ := Sp.appendRom 86 86 _ 56 infoEv11 rfl Tryz.underlying86 (by decide) (by decide) HQP.out HL7.out HR1.out (by have := HRN2.out; omega) ((Sp.pick [_, _, _, _, _] [1, 4, 0, 2, 3] (by decide) (S)))
                  exact ⟨u, w2, h1, (Sp.pick [_, _, _, _, _] [2, 0, 3, 4, 1] (by decide) (S2))⟩
                · obtain ⟨u, w2, h1, S2⟩ := Sp.appendRom 86 86 _ 56 infoEv11 rfl Tryz.underlying86 (by decide) (by decide) HQP.out HL7.out HR1.out (by have := HRN2.out; omega) ((Sp.pick [_, _, _, _] [0, 3, 1, 2] (by decide) (S)))
                  exact ⟨u, w2, h1, (Sp.pick [_, _, _, _] [0, 2, 3, 1] (by decide) (S2))⟩
              refine Oper.wp_mono (K := fun a2 w2 => a2 = (((((((a0.put (some 64) v1).put (some 68) (.slice pa D3.length pc)).put (some 69) v6).put (some 71) v8).put (some 72) v9).put (some 73) v10).put (some 74) v11).put (some 69) u6 ∧ w2 = w6) ?_ ?_
              · rintro a2 w2 ⟨rfl, rfl⟩
                exact ⟨((Sp.pick [_, _] [1] (by decide) ((Sp.drops [_] (Sp.drops MB S6))))).cell, ⟨⟨flag_up (hlp.1), flag_up (hlp.2.1), flag_up (hlp.2.2.1), flag_up (hlp.2.2.2.1), flag_up (hlp.2.2.2.2)⟩, v1, _, _, v8, v9, v10, v11, CX, [_], MB, (by rw [put_turn _ 74 69 _ _ (by decide), put_turn _ 73 69 _ _ (by decide), put_turn _ 72 69 _ _ (by decide), put_turn _ 71 69 _ _ (by decide), put_over]), (fun _ => flag_up h1), (fun _ => flag_up h5), (fun h => by rw [flag_dn (x := 9) rfl h] at h9; cases h9), (fun h => flag_up (k9_8 (flag_dn rfl h))), (fun h => flag_up (k12_9 (flag_dn rfl h))), (fun h => flag_up (k10_9 (flag_dn rfl h))), (fun h => flag_up (k11_10 (flag_dn rfl h))), (fun _ => rfl), (fun h => d10 (flag_dn rfl h)), (fun h => d11 (flag_dn rfl h)), .inr (.inr (.inl ⟨by simp, by simp [h9], rfl⟩)), flag_or rfl mB, flag_or rfl mC, S6⟩⟩
              · refine oper_append_run hop (by rw [evalP_ne _ 74 64 _ (by decide), evalP_ne _ 73 64 _ (by decide), evalP_ne _ 72 64 _ (by decide), evalP_ne _ 71 64 _ (by decide), evalP_ne _ 69 64 _ (by decide), evalP_ne _ 68 64 _ (by decide), evalP_same _ 64 _ (by (try simp only [sizeP]); rw [hsz]; decide)]) (by rw [evalP_ne _ 74 68 _ (by decide), evalP_ne _ 73 68 _ (by decide), evalP_ne _ 72 68 _ (by decide), evalP_ne _ 71 68 _ (by decide), evalP_ne _ 69 68 _ (by decide), evalP_same _ 68 _ (by (try simp only [sizeP]); rw [hsz]; decide)]) (by rw [hg]; exact hr) ?_
                rw [hdn]
                exact ⟨rfl, rfl⟩
            · cases ho
              refine ⟨rfl, ?_⟩
              have h9 : l 9 = false := by cases h : l 9 with | false => rfl | true => rw [k9_8 h] at hl; cases hl
              have h12 : l 12 = false := by cases h : l 12 with | false => rfl | true => rw [k12_9 h] at h9; cases h9
              obtain rfl : MB = [] := by rcases mB with ⟨h, _⟩ | ⟨_, h⟩; rw [hl] at h; cases h; exact h
              have S3 := S.box #[.int .i64 e.op, .string ⟨e.name.toArray⟩, .string ⟨e.to.toArray⟩, .string ⟨e.data.toArray⟩] 93
              refine Oper.wp_mono (K := fun a2 w2 => a2 = (((((((a0.put (some 64) v1).put (some 68) v5).put (some 69) v6).put (some 71) v8).put (some 72) v9).put (some 73) v10).put (some 74) v11).put (some 71) (.slice (some ⟨wx.heap.size, 0, none⟩) 1 1) ∧ w2 = wx.alloc (.cells #[.int .i64 e.op, .string ⟨e.name.toArray⟩, .string ⟨e.to.toArray⟩, .string ⟨e.data.toArray⟩] 93)) ?_ ?_
              · rintro a2 w2 ⟨rfl, rfl⟩
                exact ⟨((Sp.pick [_, _] [1] (by decide) ((Sp.drops MA (Sp.drops [_] S3))))).cell, ⟨⟨flag_up (hlp.1), flag_up (hlp.2.1), flag_up (hlp.2.2.1), flag_up (hlp.2.2.2.1), flag_up (hlp.2.2.2.2)⟩, v1, v5, v6, _, v9, v10, v11, CX, MA, [_], (by rw [put_turn _ 74 71 _ _ (by decide), put_turn _ 73 71 _ _ (by decide), put_turn _ 72 71 _ _ (by decide), put_over]), (fun h => flag_up (k6_1 (flag_dn rfl h))), (fun h => flag_up (k6_5 (flag_dn rfl h))), (fun h => flag_up (k9_6 (flag_dn rfl h))), (fun h => by rw [flag_dn (x := 9) rfl h] at h9; cases h9), (fun h => flag_up (k12_9 (flag_dn rfl h))), (fun h => flag_up (k10_9 (flag_dn rfl h))), (fun h => flag_up (k11_10 (flag_dn rfl h))), (fun h => d5 (flag_dn rfl h)), (fun h => d10 (flag_dn rfl h)), (fun h => d11 (flag_dn rfl h)), flag_rows rfl rfl rfl mA, .inl ⟨by simp, _, rfl, rfl⟩, flag_or rfl mC, S3⟩⟩
              · have es : (((((((a0.put (some 64) v1).put (some 68) v5).put (some 69) v6).put (some 71) v8).put (some 72) v9).put (some 73) v10).put (some 74) v11).eval (.tmp 70) = .agg #[.int .i64 e.op, .string ⟨e.name.toArray⟩, .string ⟨e.to.toArray⟩, .string ⟨e.data.toArray⟩] := by rw [evalP_ne _ 74 70 _ (by decide), evalP_ne _ 73 70 _ (by decide), evalP_ne _ 72 70 _ (by decide), evalP_ne _ 71 70 _ (by decide), evalP_ne _ 69 70 _ (by decide), evalP_ne _ 68 70 _ (by decide), evalP_ne _ 64 70 _ (by decide), e7]
                generalize (((((((a0.put (some 64) v1).put (some 68) v5).put (some 69) v6).put (some 71) v8).put (some 72) v9).put (some 73) v10).put (some 74) v11) = a1 at *
                have es2 : a1.tmps[70]?.getD undef = .agg #[.int .i64 e.op, .string ⟨e.name.toArray⟩, .string ⟨e.to.toArray⟩, .string ⟨e.data.toArray⟩] := by rw [← Array.getD_eq_getD_getElem?]; exact es
                clear S3 S mA mB mC k6_1 k6_5 k9_6 k9_8 k12_9 k10_9 k11_10 d5 d10 d11 hpre hlp es
                go_simp
            · obtain ⟨hop, hdn, hg⟩ : o.op = .call { callee := .builtin .append, args := #[.tmp 69, .tmp 71], argTypes := #[86, 86] } ∧ o.dst = some 72 ∧ o.type = 86 := by cases ho; exact ⟨by kernel_rfl, by kernel_rfl, by kernel_rfl⟩
              refine ⟨by cases ho; rfl, ?_⟩
              have h6 : l 6 = true := by cases ho; exact hpre ⟨6, .data⟩ (by simp) rfl
              have h8 : l 8 = true := by cases ho; exact hpre ⟨8, .data⟩ (by simp) rfl
              clear hpre ho
              have h12 : l 12 = false := by cases h : l 12 with | false => rfl | true => rw [k12_9 h] at hl; cases hl
              obtain rfl : MA = [rowR 93 4 v6 (0 + (D3.map Ev.vals).length) ([] ++ (D3.map Ev.vals).flatten)] := by rcases mA with ⟨h, _⟩ | ⟨_, h, _⟩ | ⟨_, _, h⟩ | ⟨h, _⟩ <;> first | exact h | (exfalso; have := k6_1 h6; simp_all; done)
              rcases mB with ⟨_, g, rfl, rfl⟩ | ⟨h, _⟩
              · obtain ⟨g9, cap9, w9, hr, S9⟩ := Sp.appendOne 86 86 #[.int .i64 e.op, .string ⟨e.name.toArray⟩, .string ⟨e.to.toArray⟩, .string ⟨e.data.toArray⟩] _ 56 infoEv11 rfl Tryz.underlying86 (by decide) (by decide) rfl (by simp [Value.oneCell']) (by have := HRN2.out; omega) S
                refine Oper.wp_mono (K := fun a2 w2 => a2 = (((((((a0.put (some 64) v1).put (some 68) v5).put (some 69) v6).put (some 71) (.slice (some ⟨g, 0, none⟩) 1 1)).put (some 72) v9).put (some 73) v10).put (some 74) v11).put (some 72) (.slice (some ⟨g9, 0, none⟩) (0 + (D3.map Ev.vals).length + 1) cap9) ∧ w2 = w9) ?_ ?_
                · rintro a2 w2 ⟨rfl, rfl⟩
                  exact ⟨((Sp.pick [_, _] [1] (by decide) ((Sp.drops [_] (Sp.drops [_] S9))))).cell, ⟨⟨flag_up (hlp.1), flag_up (hlp.2.1), flag_up (hlp.2.2.1), flag_up (hlp.2.2.2.1), flag_up (hlp.2.2.2.2)⟩, v1, v5, v6, _, _, v10, v11, CX, [_], [_], (by rw [put_turn _ 74 72 _ _ (by decide), put_turn _ 73 72 _ _ (by decide), put_over]), (fun h => flag_up (k6_1 (flag_dn rfl h))), (fun h => flag_up (k6_5 (flag_dn rfl h))), (fun _ => flag_up h6), (fun _ => flag_up h8), (fun h => by rw [flag_dn (x := 12) rfl h] at h12; cases h12), (fun h => flag_up (k10_9 (flag_dn rfl h))), (fun h => flag_up (k11_10 (flag_dn rfl h))), (fun h => d5 (flag_dn rfl h)), (fun h => d10 (flag_dn rfl h)), (fun h => d11 (flag_dn rfl h)), .inr (.inr (.inr ⟨by simp, ⟨_, _, rfl⟩, rfl⟩)), .inl ⟨flag_up h8, _, rfl, rfl⟩, (by rcases mC with ⟨h, _⟩ | ⟨_, h⟩; rw [h12] at h; cases h; exact .inr ⟨by simp [h12], h⟩), S9⟩⟩
                · refine oper_append_run hop (by rw [evalP_ne _ 74 69 _ (by decide), evalP_ne _ 73 69 _ (by decide), evalP_ne _ 72 69 _ (by decide), evalP_ne _ 71 69 _ (by decide), evalP_same _ 69 _ (by (try simp only [sizeP]); rw [hsz]; decide)]) (by rw [evalP_ne _ 74 71 _ (by decide), evalP_ne _ 73 71 _ (by decide), evalP_ne _ 72 71 _ (by decide), evalP_same _ 71 _ (by (try simp only [sizeP]); rw [hsz]; decide)]) (by rw [hg]; exact hr) ?_
                  rw [hdn]
                  exact ⟨rfl, rfl⟩
              · rw [h8] at h; cases h
            · cases ho
              refine ⟨rfl, ?_⟩
              have h9 : l 9 = true := hpre ⟨9, .phase⟩ (by simp) rfl
              refine Oper.wp_mono (K := fun a2 w2 => a2 = (((((((a0.put (some 64) v1).put (some 68) v5).put (some 69) v6).put (some 71) v8).put (some 72) v9).put (some 73) v10).put (some 74) v11).put (some 73) (.pointer (some ⟨x, 0, none⟩)) ∧ w2 = wx) ?_ ?_
              · rintro a2 w2 ⟨rfl, rfl⟩
                exact ⟨((Sp.pick [_, _] [1] (by decide) ((Sp.drops MA (Sp.drops MB S))))).cell, ⟨⟨flag_up (hlp.1), flag_up (hlp.2.1), flag_up (hlp.2.2.1), flag_up (hlp.2.2.2.1), flag_up (hlp.2.2.2.2)⟩, v1, v5, v6, v8, v9, _, v11, CX, MA, MB, (by rw [put_turn _ 74 73 _ _ (by decide), put_over]), (fun h => flag_up (k6_1 (flag_dn rfl h))), (fun h => flag_up (k6_5 (flag_dn rfl h))), (fun h => flag_up (k9_6 (flag_dn rfl h))), (fun h => flag_up (k9_8 (flag_dn rfl h))), (fun h => flag_up (k12_9 (flag_dn rfl h))), (fun _ => flag_up h9), (fun h => flag_up (k11_10 (flag_dn rfl h))), (fun h => d5 (flag_dn rfl h)), (fun _ => rfl), (fun h => d11 (flag_dn rfl h)), flag_rows rfl rfl rfl mA, flag_or rfl mB, flag_or rfl mC, S⟩⟩
              · have es : (((((((a0.put (some 64) v1).put (some 68) v5).put (some 69) v6).put (some 71) v8).put (some 72) v9).put (some 73) v10).put (some 74) v11).eval (.tmp 63) = .pointer (some ⟨x, 0, none⟩) := by rw [evalP_ne _ 74 63 _ (by decide), evalP_ne _ 73 63 _ (by decide), evalP_ne _ 72 63 _ (by decide), evalP_ne _ 71 63 _ (by decide), evalP_ne _ 69 63 _ (by decide), evalP_ne _ 68 63 _ (by decide), evalP_ne _ 64 63 _ (by decide), e0]
                generalize (((((((a0.put (some 64) v1).put (some 68) v5).put (some 69) v6).put (some 71) v8).put (some 72) v9).put (some 73) v10).put (some 74) v11) = a1 at *
                have es2 : a1.tmps[63]?.getD undef = .pointer (some ⟨x, 0, none⟩) := by rw [← Array.getD_eq_getD_getElem?]; exact es
                clear S mA mB mC k6_1 k6_5 k9_6 k9_8 k12_9 k10_9 k11_10 d5 d11 hpre hlp es
                go_simp
            · cases ho
              refine ⟨rfl, ?_⟩
              have h10 : l 10 = true := hpre ⟨10, .data⟩ (by simp) rfl
              have dd := d10 h10
              subst dd
              refine Oper.wp_mono (K := fun a2 w2 => a2 = (((((((a0.put (some 64) v1).put (some 68) v5).put (some 69) v6).put (some 71) v8).put (some 72) v9).put (some 73) (.pointer (some ⟨x, 0, none⟩))).put (some 74) v11).put (some 74) (.pointer (some ⟨x, 2, none⟩)) ∧ w2 = wx) ?_ ?_
              · rintro a2 w2 ⟨rfl, rfl⟩
                exact ⟨((Sp.pick [_, _] [1] (by decide) ((Sp.drops MA (Sp.drops MB S))))).cell, ⟨⟨flag_up (hlp.1), flag_up (hlp.2.1), flag_up (hlp.2.2.1), flag_up (hlp.2.2.2.1), flag_up (hlp.2.2.2.2)⟩, v1, v5, v6, v8, v9, _, _, CX, MA, MB, (by rw [put_over]), (fun h => flag_up (k6_1 (flag_dn rfl h))), (fun h => flag_up (k6_5 (flag_dn rfl h))), (fun h => flag_up (k9_6 (flag_dn rfl h))), (fun h => flag_up (k9_8 (flag_dn rfl h))), (fun h => flag_up (k12_9 (flag_dn rfl h))), (fun h => flag_up (k10_9 (flag_dn rfl h))), (fun _ => flag_up h10), (fun h => d5 (flag_dn rfl h)), (fun _ => rfl), (fun _ => rfl), flag_rows rfl rfl rfl mA, flag_or rfl mB, flag_or rfl mC, S⟩⟩
              · have es : (((((((a0.put (some 64) v1).put (some 68) v5).put (some 69) v6).put (some 71) v8).put (some 72) v9).put (some 73) (.pointer (some ⟨x, 0, none⟩))).put (some 74) v11).eval (.tmp 73) = .pointer (some ⟨x, 0, none⟩) := by rw [evalP_ne _ 74 73 _ (by decide), evalP_same _ 73 _ (by (try simp only [sizeP]); rw [hsz]; decide)]
                generalize (((((((a0.put (some 64) v1).put (some 68) v5).put (some 69) v6).put (some 71) v8).put (some 72) v9).put (some 73) (.pointer (some ⟨x, 0, none⟩))).put (some 74) v11) = a1 at *
                have es2 : a1.tmps[73]?.getD undef = .pointer (some ⟨x, 0, none⟩) := by rw [← Array.getD_eq_getD_getElem?]; exact es
                clear S mA mB mC k6_1 k6_5 k9_6 k9_8 k12_9 k10_9 k11_10 d5 d11 hpre hlp es
                go_simp
            · obtain ⟨hop, hdn⟩ : o.op = .store 86 (.tmp 74) (.tmp 72) ∧ o.dst = none := by cases ho; exact ⟨by kernel_rfl, by kernel_rfl⟩
              refine ⟨by cases ho; rfl, ?_⟩
              have h9 : l 9 = true := by cases ho; exact hpre ⟨9, .data⟩ (by simp) rfl
              have h11 : l 11 = true := by cases ho; exact hpre ⟨11, .data⟩ (by simp) rfl
              clear hpre ho
              have dd := d11 h11
              subst dd
              obtain rfl : CX = #[.slice ua (D1.did e).length uc, xs, .slice pa D3.length pc, yt, .int .i64 D5, .int .i64 df, .bool false] := by rcases mC with ⟨h, _⟩ | ⟨_, h⟩; rw [hl] at h; cases h; exact h
              rcases mB with ⟨_, g8, rfl, rfl⟩ | ⟨h, _⟩
              · obtain ⟨⟨g, cap, rfl⟩, rfl⟩ : (∃ g cap, v9 = .slice (some ⟨g, 0, none⟩) (0 + (D3.map Ev.vals).length + 1) cap) ∧ MA = [rowR 93 4 v9 (0 + (D3.map Ev.vals).length + 1) ([] ++ (D3.map Ev.vals).flatten ++ (#[.int .i64 e.op, .string ⟨e.name.toArray⟩, .string ⟨e.to.toArray⟩, .string ⟨e.data.toArray⟩] : Array Value).toList)] := by
                  rcases mA with ⟨h, _⟩ | ⟨_, h, _⟩ | ⟨_, h, _⟩ | ⟨_, h⟩
                  · have := k6_1 (k9_6 h9); rw [h] at this; cases this
                  · have := k9_6 h9; rw [h] at this; cases this
                  · rw [h] at h9; cases h9
                  · exact h
                have S2 := S.pull2
                have S3 := (S2.set (o := 2) (.slice (some ⟨g, 0, none⟩) (0 + (D3.map Ev.vals).length + 1) cap)).push2
                refine Oper.wp_mono (K := fun a2 w2 => a2 = (((((((a0.put (some 64) v1).put (some 68) v5).put (some 69) v6).put (some 71) (.slice (some ⟨g8, 0, none⟩) 1 1)).put (some 72) (.slice (some ⟨g, 0, none⟩) (0 + (D3.map Ev.vals).length + 1) cap)).put (some 73) v10).put (some 74) (.pointer (some ⟨x, 2, none⟩))) ∧ w2 = wx.setCell ⟨x, 2, none⟩ (.slice (some ⟨g, 0, none⟩) (0 + (D3.map Ev.vals).length + 1) cap)) ?_ ?_
                · rintro a2 w2 ⟨rfl, rfl⟩
                  exact ⟨((Sp.pick [_, _] [1] (by decide) ((Sp.drops [_] (Sp.drops [_] S3))))).cell, ⟨⟨flag_up (hlp.1), flag_up (hlp.2.1), flag_up (hlp.2.2.1), flag_up (hlp.2.2.2.1), flag_up (hlp.2.2.2.2)⟩, v1, v5, v6, _, _, v10, _, _, [_], [_], (rfl), (fun h => flag_up (k6_1 (flag_dn rfl h))), (fun h => flag_up (k6_5 (flag_dn rfl h))), (fun h => flag_up (k9_6 (flag_dn rfl h))), (fun h => flag_up (k9_8 (flag_dn rfl h))), (fun _ => flag_up h9), (fun h => flag_up (k10_9 (flag_dn rfl h))), (fun h => flag_up (k11_10 (flag_dn rfl h))), (fun h => d5 (flag_dn rfl h)), (fun h => d10 (flag_dn rfl h)), (fun _ => rfl), .inr (.inr (.inr ⟨flag_up h9, ⟨_, _, rfl⟩, rfl⟩)), .inl ⟨flag_up (k9_8 h9), _, rfl, rfl⟩, .inl ⟨by simp, rfl⟩, S3⟩⟩
                · have es : (((((((a0.put (some 64) v1).put (some 68) v5).put (some 69) v6).put (some 71) (.slice (some ⟨g8, 0, none⟩) 1 1)).put (some 72) (.slice (some ⟨g, 0, none⟩) (0 + (D3.map Ev.vals).length + 1) cap)).put (some 73) v10).put (some 74) (.pointer (some ⟨x, 2, none⟩))).eval (.tmp 74) = .pointer (some ⟨x, 2, none⟩) := by rw [evalP_same _ 74 _ (by (try simp only [sizeP]); rw [hsz]; decide)]
                  have er : (((((((a0.put (some 64) v1).put (some 68) v5).put (some 69) v6).put (some 71) (.slice (some ⟨g8, 0, none⟩) 1 1)).put (some 72) (.slice (some ⟨g, 0, none⟩) (0 + (D3.map Ev.vals).length + 1) cap)).put (some 73) v10).put (some 74) (.pointer (some ⟨x, 2, none⟩))).eval (.tmp 72) = (.slice (some ⟨g, 0, none⟩) (0 + (D3.map Ev.vals).length + 1) cap) := by rw [evalP_ne _ 74 72 _ (by decide), evalP_ne _ 73 72 _ (by decide), evalP_same _ 72 _ (by (try simp only [sizeP]); rw [hsz]; decide)]
                  generalize (((((((a0.put (some 64) v1).put (some 68) v5).put (some 69) v6).put (some 71) (.slice (some ⟨g8, 0, none⟩) 1 1)).put (some 72) (.slice (some ⟨g, 0, none⟩) (0 + (D3.map Ev.vals).length + 1) cap)).put (some 73) v10).put (some 74) (.pointer (some ⟨x, 2, none⟩))) = a1 at *
                  have es2 : a1.tmps[74]?.getD undef = .pointer (some ⟨x, 2, none⟩) := by rw [← Array.getD_eq_getD_getElem?]; exact es
                  have er2 : a1.tmps[72]?.getD undef = (.slice (some ⟨g, 0, none⟩) (0 + (D3.map Ev.vals).length + 1) cap) := by rw [← Array.getD_eq_getD_getElem?]; exact er
                  have cc := S2.cell
                  have ff := S2.free
                  clear S3 S2 S mA mC k6_1 k6_5 k9_6 k9_8 k12_9 k10_9 k11_10 d5 d10 d11 hlp es er
                  obtain ⟨oop, ogd, odst, oty, oaf, opos⟩ := o
                  dsimp only at hop hdn
                  subst hop
                  subst hdn
                  go_simp
              · have := k9_8 h9; rw [h] at this; cases this
          · rintro l a wx hl ⟨hlp, v1, v5, v6, v8, v9, v10, v11, CX, MA, MB, rfl, k6_1, k6_5, k9_6, k9_8, k12_9, k10_9, k11_10, d5, d10, d11, mA, mB, mC, S⟩
            have h8 := hl 8 (by decide)
            have h9 := hl 9 (by decide)
            have h10 := hl 10 (by decide)
            have h11 := hl 11 (by decide)
            have h12 := hl 12 (by decide)
            have dd := d10 h10
            subst dd
            have dd := d11 h11
            subst dd
            rcases mB with ⟨_, g8, rfl, rfl⟩ | ⟨h, _⟩
            · obtain ⟨⟨g, cap, rfl⟩, rfl⟩ : (∃ g cap, v9 = .slice (some ⟨g, 0, none⟩) (0 + (D3.map Ev.vals).length + 1) cap) ∧ MA = [rowR 93 4 v9 (0 + (D3.map Ev.vals).length + 1) ([] ++ (D3.map Ev.vals).flatten ++ (#[.int .i64 e.op, .string ⟨e.name.toArray⟩, .string ⟨e.to.toArray⟩, .string ⟨e.data.toArray⟩] : Array Value).toList)] := by
                rcases mA with ⟨h, _⟩ | ⟨_, h, _⟩ | ⟨_, h, _⟩ | ⟨_, h⟩
                · have := k6_1 (k9_6 h9); rw [h] at this; cases this
                · have := k9_6 h9; rw [h] at this; cases this
                · rw [h] at h9; cases h9
                · exact h
              obtain rfl : CX = _ := by rcases mC with ⟨_, h⟩ | ⟨h, _⟩; exact h; rw [h12] at h; cases h
              have SE : Sp w0 F0 wx (rowR 93 4 (.slice (some ⟨g, 0, none⟩) (0 + (D3.map Ev.vals).length + 1) cap) (0 + (D3.map Ev.vals).length + 1) ([] ++ (D3.map Ev.vals).flatten ++ (#[.int .i64 e.op, .string ⟨e.name.toArray⟩, .string ⟨e.to.toArray⟩, .string ⟨e.data.toArray⟩] : Array Value).toList) :: boxR x (((#[.slice ua (D1.did e).length uc, xs, .slice pa D3.length pc, yt, .int .i64 D5, .int .i64 df, .bool false] : Array Value).setIfInBounds 2 (.slice (some ⟨g, 0, none⟩) (0 + (D3.map Ev.vals).length + 1) cap))) 88 :: boxR q #[.int .i64 e.op, .string ⟨e.name.toArray⟩, .string ⟨e.to.toArray⟩, .string ⟨e.data.toArray⟩] 93 :: romR (fsK (.slice ua (D1.did e).length uc) (D1.did e) :: evK yt (D4 ++ [e]) :: xk) :: L) := S.drop
              have HSE := Lib.hid SE
              clear S SE mA mC k6_1 k6_5 k9_6 k9_8 k12_9 k10_9 k11_10 d5 d10 d11 hlp hl h8 h9 h12
              rw [← hA]
              clear e4 e7 e0 hsz hA
              simp only [Act.put, List.setIfInBounds_toArray, List.set_cons_zero, List.set_cons_succ]
              have S3 := ev_more ((Sp.pick [_, _, _, _] [0, 3, 1, 2] (by decide) (HSE.out)))
              simp only [List.setIfInBounds_toArray, List.set_cons_zero, List.set_cons_succ] at S3
              have HS5 := Lib.hid S3
              clear S3 HSE hS0
              go_wp2
              go_ret
              rw [HD5.out]
              dsimp only
              rw [← HDF.out]
              exact ⟨rfl, Sp.rdShut (X := ⟨.slice ua (D1.did e).length uc, xs, .slice (some ⟨g, 0, none⟩) (0 + (D3.map Ev.vals).length + 1) cap, yt, _⟩) ⟨List.mem_cons_of_mem _ List.mem_cons_self, List.mem_cons_of_mem _ (List.mem_cons_of_mem _ (List.mem_cons_of_mem _ HX.out.sure)), List.mem_cons_self, List.mem_cons_of_mem _ (List.mem_cons_of_mem _ List.mem_cons_self), HX.out.snow.did e, HX.out.ssure⟩ ((Sp.pick [_, _, _] [1, 0] (by decide) (HS5.out)))⟩
            · rw [h8] at h; cases h
          · refine ⟨⟨by rfl, by rfl, by rfl, by rfl, by rfl⟩, a0.tmps.getD 64 undef, a0.tmps.getD 68 undef, a0.tmps.getD 69 undef, a0.tmps.getD 71 undef, a0.tmps.getD 72 undef, a0.tmps.getD 73 undef, a0.tmps.getD 74 undef, _, [], [], ?_, (fun h => by cases h), (fun h => by cases h), (fun h => by cases h), (fun h => by cases h), (fun h => by cases h), (fun h => by cases h), (fun h => by cases h), (fun h => by cases h), (fun h => by cases h), (fun h => by cases h), .inl ⟨rfl, rfl⟩, .inr ⟨rfl, rfl⟩, .inr ⟨rfl, rfl⟩, HS4.out.drew⟩
            rw [put_back a0 64 (by rw [hsz]; decide), put_back a0 68 (by rw [hsz]; decide), put_back a0 69 (by rw [hsz]; decide), put_back a0 71 (by rw [hsz]; decide), put_back a0 72 (by rw [hsz]; decide), put_back a0 73 (by rw [hsz]; decide), put_back a0 74 (by rw [hsz]; decide)]
      · rw [h8] at h; cases h
    · refine ⟨⟨by rfl, by rfl, by rfl, by rfl, by rfl⟩, a0.tmps.getD 30 undef, a0.tmps.getD 34 undef, a0.tmps.getD 35 undef, a0.tmps.getD 37 undef, a0.tmps.getD 38 undef, a0.tmps.getD 39 undef, a0.tmps.getD 40 undef, _, [], [], ?_, (fun h => by cases h), (fun h => by cases h), (fun h => by cases h), (fun h => by cases h), (fun h => by cases h), (fun h => by cases h), (fun h => by cases h), (fun h => by cases h), (fun h => by cases h), (fun h => by cases h), .inl ⟨rfl, rfl⟩, .inr ⟨rfl, rfl⟩, .inr ⟨rfl, rfl⟩, HS2.out.drew⟩
      rw [put_back a0 30 (by rw [hsz]; decide), put_back a0 34 (by rw [hsz]; decide), put_back a0 35 (by rw [hsz]; decide), put_back a0 37 (by rw [hsz]; decide), put_back a0 38 (by rw [hsz]; decide), put_back a0 39 (by rw [hsz]; decide), put_back a0 40 (by rw [hsz]; decide)]
end
end Go.Proofs.YtcffickkipicbaaGreatDoor

/-! RDkI -/
/-! RDkI -/
namespace Go.Proofs.YtcffickkipicbaaGreatDoor
open Go.RowKit Go.Maps

section
variable {w0 w w2 : World} {L : List Res} {F0 : List Nat} {D : Dk} {X : RdV} {x m : Nat}
theorem rDoneS (e : Ev) (hok : D.Ok m) (hm : m ≤ 1000000) (hdt : e.op = 2 → ((D.now.get e.name).getD []).length + e.data.length ≤ maxLen) (S : Sp w0 F0 w (rkR x D :: L)) : Calls Tryz.prog 73 #[.pointer (some ⟨x, 0, none⟩), e.agg] w fun r w2 => r = .returned (.int .i64 (D.done e).2) ∧ Sp w0 F0 w2 (rkR x (D.done e).1 :: L) := by
  by_cases h : D.dead = true ∨ D.fuse = 0
  · have h2 : D.done e = ({ D with dead := true }, 13) := by
      unfold Dk.done
      rcases h with h | h <;> simp [h]
    rw [h2]
    exact rDoneDead e h S
  · have hd : D.dead = false := by
      cases hd : D.dead with
      | false => rfl
      | true => exact absurd (.inl hd) h
    have hf : D.fuse ≠ 0 := fun e => h (.inr e)
    have h2 : (D.done e).2 = 0 := by
      unfold Dk.done
      have hf2 : (D.fuse == 0) = false := by simpa using hf
      rw [hd, hf2]
      by_cases h5 : e.op = 5 <;> simp [h5]
    rw [h2]
    have h3 := hok.sure
    exact rDoneLive e hd hf hok.fuse (by have := hok.now; omega) (by omega) (by have := hok.trace; omega) hdt S
set_option maxRecDepth 100000 in
set_option maxHeartbeats 4000000 in
theorem rSyncS (hok : D.Ok m) (hm : m ≤ 1000000) (S : Sp w0 F0 w (rkR x D :: L)) : Calls Tryz.prog 63 #[.pointer (some ⟨x, 0, none⟩)] w fun r w2 => r = .returned (.int .i64 D.sync.2) ∧ Sp w0 F0 w2 (rkR x D.sync.1 :: L) := by
  have HDN := Lib.hid (rDoneS (L := L) ⟨5, [], [], []⟩ hok hm (by simp) S)
  clear S hok
  go_enter Tryz.func63, Tryz.ntmps63
  go_wp2_with fail
  refine HDN.out.mono ?_
  rintro r w2 ⟨rfl, h2⟩
  have H2 := Lib.hid h2
  clear h2
  go_wp2
  go_ret
  exact ⟨rfl, H2.out⟩
theorem add_fits {a b : Bs} (h : a.length + b.length < 1000000000000000000) : a.length + b.length ≤ maxLen := by unfold maxLen; omega
set_option maxRecDepth 100000 in
set_option maxHeartbeats 8000000 in
theorem rWriteS (n d : Bs) (hok : D.Ok m) (hm : m ≤ 1000000) (hn : n.length ≤ 1000000000) (hd : d.length ≤ 1000000000) (S : Sp w0 F0 w (rkR x D :: L)) : Calls Tryz.prog 34 #[.pointer (some ⟨x, 0, none⟩), .string ⟨n.toArray⟩, .string ⟨d.toArray⟩] w fun r w2 => r = .returned (.int .i64 (D.write n d).2) ∧ Sp w0 F0 w2 (rkR x (D.write n d).1 :: L) := by
  have hbn : (D.now.bytes : Int) ≤ 1000000000000 := by
    have h1 := bytes_under hok.nowU
    have h2 : D.now.length * m ≤ 1000000 * 1000000 := Nat.mul_le_mul (by have := hok.now; omega) (by omega)
    omega
  have hdn : (d.length : Int) ≤ 1000000000 := by omega
  have hFn : D.now.length ≤ 1000000 := by have := hok.now; omega
  have hgn := get_le D.now n
  obtain ⟨X, hX, S1⟩ := S.rdOpen
  obtain ⟨na, nc, hxn⟩ := (S1.drop.romFs hX.now).form
  have HX := Lib.hid hX
  have HS := Lib.hid S1
  have HSZ := Lib.hid (fun (W : World) (S : Sp w0 F0 W (boxR x (rdCells D X) 88 :: romR X.K :: L)) => rSizeX hX hFn (by omega) S)
  have HDN := Lib.hid (fun (W : World) (S : Sp w0 F0 W (boxR x (rdCells D X) 88 :: romR X.K :: L)) => rDoneS (w := W) ⟨1, n, [], d⟩ hok hm (fun h => by cases h) (Sp.rdShut hX S))
  have HFI := Lib.hid (fun (W : World) (S : Sp w0 F0 W (boxR x (rdCells D X) 88 :: romR X.K :: L)) => show Calls Tryz.prog 70 #[X.n, .string ⟨n.toArray⟩] W (fun e w2 => e = .returned (.int .i64 (findI n D.now)) ∧ Sp w0 F0 w2 (boxR x (rdCells D X) 88 :: romR X.K :: L)) from (rFindS D.now n hFn S.pull1 hX.now).mono fun e w2 h => ⟨h.1, h.2.pull1⟩)
  have HDA := Lib.hid (fun (W : World) (S : Sp w0 F0 W (boxR x (rdCells D X) 88 :: romR X.K :: L)) => show Calls Tryz.prog 72 #[X.n, .string ⟨n.toArray⟩] W (fun e w2 => e = .returned (.string ⟨((D.now.get n).getD []).toArray⟩) ∧ Sp w0 F0 w2 (boxR x (rdCells D X) 88 :: romR X.K :: L)) from (rDataS D.now n hFn S.pull1 hX.now).mono fun e w2 h => ⟨h.1, h.2.pull1⟩)
  have HCC : Hid (∀ (W : World) (L' : List Res), Sp w0 F0 W (boxR x (rdCells D X) 88 :: L') → ∀ o, W.cell? ⟨x, o, none⟩ = (#[.slice na D.now.length nc, X.s, X.p, X.t, .int .i64 D.quota, .int .i64 D.fuse, .bool D.dead] : Array Value)[o]?) := fun W L' S => by
    have h := S.cell
    unfold rdCells at h
    rw [hxn] at h
    exact h
  have HSH := Lib.hid (fun (W : World) (S : Sp w0 F0 W (boxR x (rdCells D X) 88 :: romR X.K :: L)) => Sp.rdShut hX S)
  rw [hxn] at HFI HDA
  clear S S1 hX hok hm
  have HMY : Hid (Calls Tryz.prog 69 #[.string ⟨n.toArray⟩] w fun e w2 => e = .returned (.bool (may n)) ∧ w2 = w) := rMay_bytes ⟨n.toArray⟩ w (by unfold maxLen; simp [ByteArray.size]; omega)
  have HV : Hid (D.write n d = if may n then (if !D.now.has n && decide (200 ≤ D.now.length) then (D, 4) else if D.quota < (D.now.bytes : Int) - ((D.now.get n).getD []).length + d.length then (D, 12) else D.done ⟨1, n, [], d⟩) else (D, 1)) := rfl
  have hsum : (D.now.bytes : Int) - (((D.now.get n).getD []).length : Int) + (d.length : Int) ≤ 2000000000000 := by omega
  have hdif : 0 ≤ (D.now.bytes : Int) - (((D.now.get n).getD []).length : Int) := by omega
  have hdif2 : (D.now.bytes : Int) - (((D.now.get n).getD []).length : Int) ≤ 1000000000000 := by omega
  have HFC := Lib.hid (findI_cases n D.now)
  clear hgn hxn
  generalize D.now.bytes = bz at *
  generalize (D.now.get n).getD [] = gd at *
  go_enter Tryz.func34, Tryz.ntmps34
  go_wp2_with fail
  refine HMY.out.mono ?_
  rintro r w2 ⟨rfl, rfl⟩
  clear HMY
  cases hmy : may n with
  | false =>
    have HV2 := Lib.hid (HV.out.trans (if_neg (by rw [hmy]; simp)))
    clear hmy HV
    go_wp2
    go_ret
    rw [HV2.out]
    exact ⟨rfl, HSH.out _ HS.out⟩
  | true =>
    have HV2 := Lib.hid (HV.out.trans (if_pos hmy))
    clear hmy HV
    go_upto_region 3 with (fail)
    go_cut [24] (fun v24 wx => v24 = .bool (!D.now.has n && decide (200 ≤ D.now.length)) ∧ Sp w0 F0 wx (boxR x (rdCells D X) 88 :: romR X.K :: L))
    case first =>
      have c0 := HCC.out _ _ HS.out
      go_wp2_with fail
      refine (HFI.out _ HS.out).mono ?_
      rintro r w2 ⟨rfl, h2⟩
      have HS2 := Lib.hid h2
      clear h2 c0 HS HFI
      have c2 := HCC.out _ _ HS2.out
      rcases HFC.out with ⟨h1, h2, h3⟩ | ⟨k, hk, h1, h2, h3⟩
      · rw [h1]
        have HH2 := Lib.hid h2
        clear h1 h2 h3
        by_cases h200 : (200 : Int) ≤ (D.now.length : Int)
        · have h201 : 200 ≤ D.now.length := by omega
          go_wp2
          go_meet
          exact ⟨by rw [HH2.out]; simp [h201], HS2.out⟩
        · have h201 : ¬ 200 ≤ D.now.length := by omega
          go_wp2
          go_meet
          exact ⟨by rw [HH2.out]; simp [h201]; omega, HS2.out⟩
      · rw [h1]
        have HH2 := Lib.hid h2
        clear h1 h2 h3
        have hk0 : ¬ ((k : Int) < 0) := by omega
        go_wp2
        go_meet
        exact ⟨by rw [HH2.out]; rfl, HS2.out⟩
    case rest =>
      obtain ⟨rfl, h2⟩ := hcut
      have HS2 := Lib.hid h2
      clear h2 HS HFI HFC
      cases ht : (!D.now.has n && decide (200 ≤ D.now.length)) with
      | true =>
        have HV3 := Lib.hid (HV2.out.trans (if_pos ht))
        clear ht HV2
        go_wp2
        go_ret
        rw [HV3.out]
        exact ⟨rfl, HSH.out _ HS2.out⟩
      | false =>
        have HV3 := Lib.hid (HV2.out.trans (if_neg (by rw [ht]; simp)))
        clear ht HV2 hFn
        generalize D.now.length = nl at *
        have hw1 : IntKind.i64.wrap ((bz : Int) - (gd.length : Int)) = (bz : Int) - (gd.length : Int) := by rw [IntKind.wrap_i64]; omega
        have hw2 : IntKind.i64.wrap ((bz : Int) - (gd.length : Int) + (d.length : Int)) = (bz : Int) - (gd.length : Int) + (d.length : Int) := by rw [IntKind.wrap_i64]; omega
        go_upto_region 5 with (fail)
        refine wp_region_chainG [0, 2, 3, 4, 5, 6, 10, 11, 13, 14, 15, 16, 1, 7, 8, 9, 12, 17] (fun c => c == 1 || c == 7) (fun c => false) (T := fun wx => (∀ o, wx.cell? ⟨x, o, none⟩ = (#[.slice na nl nc, X.s, X.p, X.t, .int .i64 D.quota, .int .i64 D.fuse, .bool D.dead] : Array Value)[o]?)) (S := fun wx => Sp w0 F0 wx (boxR x (rdCells D X) 88 :: romR X.K :: L)) (by kernel_rfl) (by kernel_rfl) (by kernel_rfl) HS2.out.drew (fun x h => HCC.out _ _ h) ?_
        repeat
          refine Exists.intro _ (And.intro rfl (Or.inl (Exists.intro ?_ (And.intro (fun wS hS K hK => ?_) (And.intro ?_ ?_)))))
          rotate_left 1
          · have t0 := hS
            first
              | (refine if_unwanted rfl ?_; simp only [Act.put, List.setIfInBounds_toArray, List.set_cons_zero, List.set_cons_succ]; exact hK.out)
              | (refine if_wanted rfl ?_; go_simp; exact hK.out)
          · rfl
        refine ChainG.one rfl rfl rfl (fun wS hS R hR => ?_)
        go_simp
        go_at_call 71
        refine (HSZ.out _ hS).mono ?_
        rintro e w7 ⟨rfl, S7⟩
        refine hR.out _ _ rfl (fun wx => (∀ o, wx.cell? ⟨x, o, none⟩ = (#[.slice na nl nc, X.s, X.p, X.t, .int .i64 D.quota, .int .i64 D.fuse, .bool D.dead] : Array Value)[o]?)) (fun wx => Sp w0 F0 wx (boxR x (rdCells D X) 88 :: romR X.K :: L)) S7 (fun x h => HCC.out _ _ h) (fun _ h => h) ?_
        clear hR hS S7
        repeat
          refine Exists.intro _ (And.intro rfl (Or.inl (Exists.intro ?_ (And.intro (fun wS hS K hK => ?_) (And.intro ?_ ?_)))))
          rotate_left 1
          · have t0 := hS
            first
              | (refine if_unwanted rfl ?_; simp only [Act.put, List.setIfInBounds_toArray, List.set_cons_zero, List.set_cons_succ]; exact hK.out)
              | (refine if_wanted rfl ?_; go_simp; exact hK.out)
          · rfl
        refine ChainG.one rfl rfl rfl (fun wS hS R hR => ?_)
        go_simp
        go_at_call 72
        refine (HDA.out _ hS).mono ?_
        rintro e w7 ⟨rfl, S7⟩
        refine hR.out _ _ rfl (fun wx => (∀ o, wx.cell? ⟨x, o, none⟩ = (#[.slice na nl nc, X.s, X.p, X.t, .int .i64 D.quota, .int .i64 D.fuse, .bool D.dead] : Array Value)[o]?)) (fun wx => Sp w0 F0 wx (boxR x (rdCells D X) 88 :: romR X.K :: L)) S7 (fun x h => HCC.out _ _ h) (fun _ h => h) ?_
        clear hR hS S7
        repeat
          refine Exists.intro _ (And.intro rfl (Or.inl (Exists.intro ?_ (And.intro (fun wS hS K hK => ?_) (And.intro ?_ ?_)))))
          rotate_left 1
          · have t0 := hS
            first
              | (refine if_unwanted rfl ?_; simp only [Act.put, List.setIfInBounds_toArray, List.set_cons_zero, List.set_cons_succ]; exact hK.out)
              | (refine if_wanted rfl ?_; go_simp; exact hK.out)
          · rfl
        intro wE hE
        have HSE := Lib.hid hE
        clear hE
        have HS3 := Lib.hid HSE.out
        clear HSE HS2
        try simp only [hw1, hw2]
        by_cases hq : D.quota < (bz : Int) - (gd.length : Int) + (d.length : Int)
        · have HV4 := Lib.hid (HV3.out.trans (if_pos hq))
          clear HV3
          go_wp2
          go_ret
          rw [HV4.out]
          exact ⟨rfl, HSH.out _ HS3.out⟩
        · have HV4 := Lib.hid (HV3.out.trans (if_neg hq))
          clear HV3
          go_wp2_with fail
          refine (HDN.out _ HS3.out).mono ?_
          rintro r w4 ⟨rfl, h2⟩
          have HS4 := Lib.hid h2
          clear h2 HS3
          go_wp2
          go_ret
          rw [HV4.out]
          exact ⟨rfl, HS4.out⟩
end
end Go.Proofs.YtcffickkipicbaaGreatDoor

/-! RDkJ -/
/-! RDkJ -/
namespace Go.Proofs.YtcffickkipicbaaGreatDoor
open Go.RowKit Go.Maps

section
variable {w0 w w2 : World} {L : List Res} {F0 : List Nat} {D : Dk} {X : RdV} {x m : Nat} {K : List Rom} {v : Value}
theorem Sp.evAt {l : List Ev} {a : Option Addr} {n cap : Nat} (S : Sp w0 F0 w (romR K :: L)) (h : evK (.slice a n cap) l ∈ K) {i : Nat} (hi : i < l.length) : ∃ b off, a = some ⟨b, off, none⟩ ∧ w.cell? ⟨b, off + i * 4, none⟩ = some (.int .i64 l[i].op) ∧ w.cell? ⟨b, off + i * 4 + 1, none⟩ = some (.string ⟨l[i].name.toArray⟩) ∧ w.cell? ⟨b, off + i * 4 + 2, none⟩ = some (.string ⟨l[i].to.toArray⟩) ∧ w.cell? ⟨b, off + i * 4 + 3, none⟩ = some (.string ⟨l[i].data.toArray⟩) := by
  obtain ⟨F, a2, cap2, h1, _, _, h4⟩ := S.rom h
  have h1' : Value.slice a n cap = .slice a2 (l.map Ev.vals).length cap2 := h1
  simp only [Value.slice.injEq] at h1'
  obtain ⟨rfl, _, _⟩ := h1'
  have hr : (l.map Ev.vals)[i]? = some l[i].vals := by rw [List.getElem?_map, List.getElem?_eq_getElem hi]; rfl
  rcases h4 with h4 | ⟨b, off, h5, _, _, h6⟩
  · exfalso
    have : (l.map Ev.vals).length = 0 := by rw [show l.map Ev.vals = [] from h4]; rfl
    rw [List.length_map] at this
    omega
  · exact ⟨b, off, h5, h6 i _ 0 _ hr rfl, h6 i _ 1 _ hr rfl, h6 i _ 2 _ hr rfl, h6 i _ 3 _ hr rfl⟩
theorem replay_sorted (h : D.sure.Sorted) : ∀ j, (D.replay j).Sorted
  | 0 => by simpa [Dk.replay] using h
  | j + 1 => by
    by_cases hj : j < D.pend.length
    · rw [replay_succ D j hj]; exact (replay_sorted h j).did _
    · have : D.replay (j + 1) = D.replay j := by unfold Dk.replay; rw [List.take_of_length_le (by omega), List.take_of_length_le (by omega)]
      rw [this]; exact replay_sorted h j
set_option maxRecDepth 100000 in
set_option maxHeartbeats 8000000 in
theorem rCrashS (n : Int) (hok : D.Ok m) (hm : m ≤ 500000) (S : Sp w0 F0 w (rkR x D :: L)) : Calls Tryz.prog 31 #[.pointer (some ⟨x, 0, none⟩), .int .i64 n] w fun r w2 => r = .returned (.tuple #[]) ∧ Sp w0 F0 w2 (rkR x (D.crash n) :: L) := by
  obtain ⟨X, hX, S1⟩ := S.rdOpen
  obtain ⟨sa, sc, hxs⟩ := (S1.drop.romFs hX.sure).form
  obtain ⟨pa, pc, hxp⟩ := Sp.evForm S1.drop hX.pend
  have HX := Lib.hid hX
  have HS := Lib.hid S1
  have hcf := hok.crashFit (by omega)
  have HRL := Lib.hid (fun j => (show (D.replay j).length ≤ 1000000 by have := replay_length D j; have := hok.sure; omega))
  have HRS := Lib.hid (replay_sorted hX.ssure)
  have HCF := Lib.hid (fun j (h : j < D.pend.length) (_ : (D.pend[j]).op = 2) => (hcf.2 j h).1.sum)
  have HRP := Lib.hid (fun j (h : j < D.pend.length) => replay_succ D j h)
  have HRD : Hid (∀ (W : World) (j : Nat) (l : Value) (K' : List Rom) (L' : List Res), j < D.pend.length → fsK l (D.replay j) ∈ K' → (hj : j < D.pend.length) → Sp w0 F0 W (romR K' :: L') → Calls Tryz.prog 68 #[l, (D.pend[j]).agg] W fun r w2 => ∃ u, r = .returned u ∧ Sp w0 F0 w2 (romR (fsK u (D.replay (j + 1)) :: K') :: L')) := fun W j l K' L' _ hq hj S => by
    rw [HRP.out j hj]
    exact rDoS (D.replay j) (D.pend[j]) (HRL.out j) (HRS.out j) (HCF.out j hj) S hq
  have HCC : Hid (∀ (W : World) (L' : List Res), Sp w0 F0 W (boxR x (rdCells D X) 88 :: L') → ∀ o, W.cell? ⟨x, o, none⟩ = (#[X.n, .slice sa D.sure.length sc, .slice pa D.pend.length pc, X.t, .int .i64 D.quota, .int .i64 D.fuse, .bool D.dead] : Array Value)[o]?) := fun W L' S => by
    have h := S.cell
    unfold rdCells at h
    rw [hxs, hxp] at h
    exact h
  obtain ⟨k, hk⟩ : ∃ k : Nat, k = min n.toNat D.pend.length := ⟨_, rfl⟩
  have HK : Hid (D.replay n.toNat = D.replay k ∧ k ≤ D.pend.length) := by
    refine ⟨?_, by omega⟩
    unfold Dk.replay
    rw [hk]
    rcases Nat.le_total n.toNat D.pend.length with h | h
    · rw [Nat.min_eq_left h]
    · rw [Nat.min_eq_right h, List.take_of_length_le (Nat.le_refl _), List.take_of_length_le h]
  have HKD := Lib.hid hk
  have HV : Hid (D.crash n = { D with now := D.replay k, sure := D.replay k, pend := [], dead := false, fuse := -1 }) := by
    unfold Hid Dk.crash
    rw [HK.out.1]
  have hpl : (D.pend.length : Int) ≤ 1000000 := by have := hok.sure; omega
  have HQP : Hid (evK (.slice pa D.pend.length pc) D.pend ∈ X.K) := by have := hX.pend; rw [hxp] at this; exact this
  have HQS : Hid (fsK (.slice sa D.sure.length sc) (D.replay 0) ∈ X.K) := by have := hX.sure; rw [hxs] at this; exact this
  have c0 := HCC.out _ _ HS.out
  clear S S1 hX hok hcf hk hxs hxp
  go_enter Tryz.func31, Tryz.ntmps31
  go_wp2_with fail
  clear c0
  go_loopw [4, 5] (fun l i wr => ∃ (j : Nat) (K' : List Rom), i = .int .i64 j ∧ j ≤ k ∧ fsK l (D.replay j) ∈ K' ∧ (∀ q ∈ X.K, q ∈ K') ∧ Sp w0 F0 wr (boxR x (rdCells D X) 88 :: romR K' :: L)) (fun _ i _ => k - (intOf i).toNat)
  case atStart => exact ⟨0, X.K, rfl, Nat.zero_le _, HQS.out, fun q h => h, HS.out⟩
  case round =>
    obtain ⟨j, K', rfl, hj, hq, hsub, S2⟩ := hrel
    have HS2 := Lib.hid S2
    have HQ := Lib.hid hq
    have HSB := Lib.hid hsub
    have c := HCC.out _ _ S2
    by_cases hlt : j < k
    · have hlp : j < D.pend.length := by have := HK.out.2; omega
      have h1 : (j : Int) < D.pend.length := by omega
      have h2 : (j : Int) < n := by have := HKD.out; omega
      obtain ⟨b, off, hpa, x0, x1, x2, x3⟩ := Sp.evAt S2.drop (hsub _ HQP.out) hlp
      subst hpa
      have HDJ := Lib.hid (fun W L' (S : Sp w0 F0 W (romR K' :: L')) => HRD.out W j _ K' L' hlp hq hlp S)
      clear S2 hq hsub
      generalize D.pend[j] = e at *
      obtain ⟨e1, e2, e3, e4⟩ := e
      dsimp only at *
      go_wp2_with fail
      refine (HDJ.out _ _ HS2.out.pull1).mono ?_
      rintro r w3 ⟨u, rfl, S3⟩
      have HS3 := Lib.hid S3.pull1
      clear S3 c x0 x1 x2 x3
      go_wp2_with fail
      go_roundw
      case rel => exact ⟨j + 1, _, by go_num, by omega, List.mem_cons_self, fun q h => List.mem_cons_of_mem _ (HSB.out q h), HS3.out⟩
      case measure => simp [intOf]; omega
    · obtain rfl : j = k := by omega
      obtain ⟨la, lc, rfl⟩ := (S2.drop.romFs hq).form
      have f := S2.free
      have S3 := (((((HS2.out.set (o := 0) (.slice la (D.replay j).length lc)).set (o := 1) (.slice la (D.replay j).length lc)).set (o := 2) (.slice none 0 0)).set (o := 6) (.bool false)).set (o := 5) (.int .i64 (-1)))
      have HS3 := Lib.hid S3
      clear S2 S3 hq hsub
      have hor : (¬ (j : Int) < D.pend.length) ∨ ((j : Int) < D.pend.length ∧ ¬ (j : Int) < n) := by have := HKD.out; omega
      rcases hor with h1 | ⟨h1, h2⟩
      all_goals
        go_wp2
        go_end0
        refine ⟨rfl, ?_⟩
        rw [HV.out]
        refine Sp.rdShut (X := ⟨.slice la (D.replay j).length lc, .slice la (D.replay j).length lc, .slice none 0 0, X.t, evK (.slice none 0 0) [] :: K'⟩) ⟨List.mem_cons_of_mem _ HQ.out, List.mem_cons_of_mem _ HQ.out, List.mem_cons_self, List.mem_cons_of_mem _ (HSB.out _ HX.out.trace), HRS.out j, HRS.out j⟩ ?_
        exact (Sp.romMore (rows := []) (HS3.out.pull1.rowNil 93 4) (by simp)).pull1
end
end Go.Proofs.YtcffickkipicbaaGreatDoor
