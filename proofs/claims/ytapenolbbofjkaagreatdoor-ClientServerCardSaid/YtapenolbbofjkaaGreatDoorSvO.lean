/- server: slices.Clone, line.New beside them, New of what may be. Conditions: the lengths fit; what Go's variables hold. server: mailbox, May, New. Conditions: the lengths fit; what Go's variables hold. -/
import Derived.Test.YtapenolbbofjkaaGreatDoorSvS
import Derived.Deep.AppendSrc
import Derived.Deep.Upon
import Derived.Test.YtapenolbbofjkaaGreatDoorGen
import Derived.Shelf.SlicesQ.IndexFunc
import Derived.Deep.LoopGhost
/-! SvO -/
set_option linter.unusedSimpArgs false
set_option linter.unusedVariables false
set_option linter.unnecessarySimpa false
namespace Go.Proofs.YtapenolbbofjkaaGreatDoor
open Go.RowKit Go.Maps

section
variable {w0 w w2 : World} {F0 : List Nat} {L : List Res} {p : Nat} {s : Sv} {K : List Rom} {v : Value} {r : Res} {e k n : Nat} {xs : List Value}
/-- append(v, x...), x m elements that lie somewhere. -/
theorem Sp.appendFlat (t ty : TypeId) (z : Value) (bytes : Nat) (hinf : (Tryz.prog.info? e).map (fun i => (i.zero, i.size, i.bytes)) = some (some z, k, bytes)) (hzk : z.cells.size = k) (ht : Tryz.prog.underlying t = some (.slice e)) (hk : 0 < k) (hby : bytes ≤ 1000)
    (a : Option Addr) (m c : Nat) (news : List Value) (hl : news.length = m * k) (hone : ∀ u ∈ news, u.oneCell' = true) (hsrc : (a = none ∧ m = 0) ∨ ∃ ad, a = some ad ∧ ∀ j u, news[j]? = some u → w.cell? (ad.add j) = some u) (hn : n ≤ 1000000000) (hm : m ≤ 1000000000)
    (S : Sp w0 F0 w (rowR e k v n xs :: L)) : ∃ v2 w2, (Builtin.append_ #[t, t] ty #[v, .slice a m c]).run Tryz.prog w = .ok v2 w2 ∧ Sp w0 F0 w2 (rowR e k v2 (n + m) (xs ++ news) :: L) := by
  obtain ⟨i0, hi0, hz0, hz1, hz2⟩ := info_parts hinf
  have hown := S.row
  by_cases h0 : m = 0
  · subst h0
    have hnn : news = [] := List.eq_nil_of_length_eq_zero (by omega)
    subst hnn
    refine ⟨v, w, ?_, by rw [List.append_nil]; exact S⟩
    have hcap : ∃ a n c, v = .slice a n c ∧ n ≤ c := by
      rcases hown.2 with ⟨rfl, _⟩ | ⟨g, cap, cur, rfl, _, _, hc, _⟩
      · exact ⟨none, 0, 0, rfl, Nat.le_refl _⟩
      · exact ⟨_, _, _, rfl, hc⟩
    obtain ⟨a2, n2, c2, rfl, hle⟩ := hcap
    refine run_append_nothing w t t ty e i0 ht hi0 a2 n2 c2 hle _ ?_
    cases a with
    | none => exact Src.ofNil w ht c
    | some a => exact Src.ofSlice w ht a 0 c [] (by simp) (fun j u hj => by simp at hj) (fun u hu => by cases hu)
  · rcases hsrc with ⟨_, h⟩ | ⟨ad, rfl, h⟩
    · exact absurd h h0
    · obtain ⟨g, cap2, w2, hr, ho, hg, hat, _⟩ := run_append_lies (P := Tryz.prog) w t ty 0 e i0 z k bytes ht hi0 hz0 hz1 hz2 hzk hk v n xs hown ad m c news hl h hone (by omega) (by unfold maxLen; omega)
        (by have : (n + m) * bytes ≤ 2000000000 * 1000 := Nat.mul_le_mul (by omega) hby; omega) (Nat.zero_le _) _ rfl
      obtain ⟨F, ⟨rfl, _⟩, hk3⟩ := S.take
      refine ⟨_, w2, hr, hk3 w2 _ [g] ⟨rfl, ho⟩ ⟨⟨hg.os, hg.tape, hg.output, hg.size, fun j hj hn => hg.block j hj (fun e => hn (by simp [← e]))⟩, fun x hx => ?_⟩⟩
      simp only [List.mem_singleton] at hx
      subst hx
      rcases hat with h | h
      · exact .inl (by simp [h])
      · exact .inr (by omega)
theorem Sp.rowNone (S : Sp w0 F0 w L) (e k : Nat) : Sp w0 F0 (w.alloc (.cells #[] e)) (rowR e k (.slice (some ⟨w.heap.size, 0, none⟩) 0 0) 0 [] :: L) :=
  S.gain (G := [w.heap.size]) ((Ext.refl [] w).alloc _) ⟨rfl, by simp, .inr ⟨w.heap.size, 0, #[], rfl, Nat.zero_le _, (MapKept.heap_alloc w _).1, Nat.le_refl _, by unfold maxLen; omega, by simp, by simp⟩⟩ (by simp)
theorem infoRule : (Tryz.prog.info? 65).map (fun i => (i.zero, i.size, i.bytes)) = some (some (.agg #[.string ⟨#[]⟩, .int .i64 0, .int .i64 0]), 3, 32) := by kernel_rfl
theorem rlFlat_len (l : List Rl) : (l.map Rl.vals).flatten.length = l.length * 3 := by
  induction l with
  | nil => rfl
  | cons x l ih => simp [Rl.vals, List.flatten_cons] at ih ⊢; omega
theorem flat_get {α : Type} (f : α → List Value) (k : Nat) (hk : ∀ x, (f x).length = k) (hk0 : 0 < k) : ∀ (l : List α) (j : Nat) (u : Value), ((l.map f).flatten)[j]? = some u → ∃ x, l[j / k]? = some x ∧ (f x)[j % k]? = some u
  | [], j, u, h => by simp at h
  | x :: l, j, u, h => by
    rw [List.map_cons, List.flatten_cons] at h
    by_cases hj : j < k
    · rw [List.getElem?_append_left (by rw [hk]; exact hj)] at h
      refine ⟨x, by rw [Nat.div_eq_of_lt hj]; rfl, by rw [Nat.mod_eq_of_lt hj]; exact h⟩
    · rw [List.getElem?_append_right (by rw [hk]; omega), hk] at h
      obtain ⟨y, h1, h2⟩ := flat_get f k hk hk0 l (j - k) u h
      have e1 : j / k = (j - k) / k + 1 := by
        rw [Nat.div_eq_sub_div hk0 (by omega)]
      have e2 : (j - k) % k = j % k := by
        conv => rhs; rw [Nat.mod_eq_sub_mod (by omega)]
      refine ⟨y, by rw [e1, List.getElem?_cons_succ]; exact h1, by rw [← e2]; exact h2⟩
theorem rl_src {a : Option Addr} {m c : Nat} {l : List Rl} (T : RlsAt w (.slice a m c) l) : m = l.length ∧ ((a = none ∧ m = 0) ∨ ∃ ad, a = some ad ∧ ∀ j u, ((l.map Rl.vals).flatten)[j]? = some u → w.cell? (ad.add j) = some u) := by
  obtain ⟨a2, cap, h1, h2⟩ := T
  cases h1
  refine ⟨rfl, ?_⟩
  rcases h2 with rfl | ⟨b, off, rfl, h2⟩
  · cases a with
    | none => exact .inl ⟨rfl, rfl⟩
    | some a => exact .inr ⟨a, rfl, fun j u hj => by simp at hj⟩
  · refine .inr ⟨_, rfl, fun j u hj => ?_⟩
    obtain ⟨x, h3, h4⟩ := flat_get Rl.vals 3 (fun _ => rfl) (by decide) l j u hj
    have := h2 (j / 3) x (j % 3) u h3 h4
    have add : (⟨b, off, none⟩ : Addr).add j = ⟨b, off + j, none⟩ := by unfold Addr.add; split <;> simp_all
    rw [add, show off + j = off + j / 3 * 3 + j % 3 by omega]
    exact this
theorem bx_src {a : Option Addr} {m c : Nat} {l : List Mb} (T : BxsAt w (.slice a m c) l) : m = l.length ∧ ((a = none ∧ m = 0) ∨ ∃ ad, a = some ad ∧ ∀ j u, ((l.map mbVals).flatten)[j]? = some u → w.cell? (ad.add j) = some u) := by
  obtain ⟨a2, cap, h1, h2⟩ := T
  cases h1
  refine ⟨rfl, ?_⟩
  by_cases hl : l = []
  · subst hl
    cases a with
    | none => exact .inl ⟨rfl, rfl⟩
    | some a => exact .inr ⟨a, rfl, fun j u hj => by simp at hj⟩
  · obtain ⟨b, off, rfl⟩ := h2.addr (i := 0) (by simpa using List.length_pos_iff.2 hl)
    refine .inr ⟨_, rfl, fun j u hj => ?_⟩
    obtain ⟨x, h3, h4⟩ := flat_get mbVals 2 (fun _ => rfl) (by decide) l j u hj
    have := h2.at (j / 2) (mbVals x) (by rw [List.getElem?_map, h3]; rfl) (j % 2) u h4
    have add : (⟨b, off, none⟩ : Addr).add j = ⟨b, off + j, none⟩ := by unfold Addr.add; split <;> simp_all
    rw [add, show off + j = off + j / 2 * 2 + j % 2 by omega]
    exact this
set_option maxRecDepth 100000 in
set_option maxHeartbeats 1000000 in
theorem cloneRlS (l : List Rl) (hn : l.length ≤ 1000000) (T : RlsAt w v l) (S : Sp w0 F0 w L) : Calls Tryz.prog 34 #[v] w fun e w2 => ∃ v2, e = .returned v2 ∧ Sp w0 F0 w2 (rowR 65 3 v2 l.length (l.map Rl.vals).flatten :: L) := by
  obtain ⟨a, cap, rfl⟩ := T.form
  obtain ⟨_, hsrc⟩ := rl_src T
  have hone : ∀ u ∈ (l.map Rl.vals).flatten, u.oneCell' = true := fun u hu => by
    obtain ⟨r, hr, hu⟩ := List.mem_flatten.1 hu
    obtain ⟨m, _, rfl⟩ := List.mem_map.1 hr
    simp only [Rl.vals, List.mem_cons, List.not_mem_nil, or_false] at hu
    rcases hu with rfl | rfl | rfl <;> rfl
  cases a with
  | none =>
    have hl : l = [] := by
      rcases hsrc with ⟨_, h⟩ | ⟨ad, h, _⟩
      · exact List.eq_nil_of_length_eq_zero h
      · cases h
    subst hl
    have hq := fun w => Lib.run_eql_slice_nil (P := Tryz.prog) w 28 65 none 0 cap 0 0 Tryz.underlying28
    have HS := Lib.hid (S.rowNil 65 3)
    clear S T hsrc hone
    go_enter Tryz.func34, Tryz.ntmps34
    go_wp2
    go_ret
    exact ⟨_, rfl, HS.out⟩
  | some ad =>
    have hsrc2 : ∀ j u, ((l.map Rl.vals).flatten)[j]? = some u → (w.alloc (.cells #[] 65)).cell? (ad.add j) = some u := by
      rcases hsrc with ⟨h, _⟩ | ⟨ad2, h, h2⟩
      · cases h
      · cases h
        intro j u hj
        exact ((Ext.refl [] w).alloc (.cells #[] 65)).cell (h2 j u hj) (by simp)
    obtain ⟨v2, w2, hrun, S2⟩ := (S.rowNone 65 3).appendFlat 28 28 _ 32 infoRule rfl Tryz.underlying28 (by decide) (by decide) (some ad) l.length cap (l.map Rl.vals).flatten (rlFlat_len l) hone (.inr ⟨ad, rfl, hsrc2⟩) (by omega) (by omega)
    have hq := fun w => Lib.run_eql_slice_nil (P := Tryz.prog) w 28 65 (some ad) l.length cap 0 0 Tryz.underlying28
    have HRUN := Lib.hid hrun
    have HS2 := Lib.hid S2
    clear S T hsrc hone hsrc2 hrun S2
    go_enter Tryz.func34, Tryz.ntmps34
    go_wp2_with (at_builtin; refine wpList_append_run (by rfl) (by rfl) (by rfl) (by rfl) HRUN.out ?_)
    go_ret
    refine ⟨v2, rfl, ?_⟩
    have := HS2.out
    rw [Nat.zero_add, List.nil_append] at this
    exact this
set_option maxRecDepth 100000 in
set_option maxHeartbeats 1000000 in
theorem cloneMbS (l : List Mb) (hn : l.length ≤ 1000000) (T : BxsAt w v l) (S : Sp w0 F0 w L) : Calls Tryz.prog 35 #[v] w fun e w2 => ∃ v2, e = .returned v2 ∧ Sp w0 F0 w2 (rowR 37 2 v2 l.length (l.map mbVals).flatten :: L) := by
  obtain ⟨a, cap, rfl⟩ := T.form
  obtain ⟨_, hsrc⟩ := bx_src T
  have hone : ∀ u ∈ (l.map mbVals).flatten, u.oneCell' = true := fun u hu => by
    obtain ⟨r, hr, hu⟩ := List.mem_flatten.1 hu
    obtain ⟨m, _, rfl⟩ := List.mem_map.1 hr
    simp only [mbVals, List.mem_cons, List.not_mem_nil, or_false] at hu
    rcases hu with rfl | rfl <;> rfl
  cases a with
  | none =>
    have hl : l = [] := by
      rcases hsrc with ⟨_, h⟩ | ⟨ad, h, _⟩
      · exact List.eq_nil_of_length_eq_zero h
      · cases h
    subst hl
    have hq := fun w => Lib.run_eql_slice_nil (P := Tryz.prog) w 29 37 none 0 cap 0 0 Tryz.underlying29
    have HS := Lib.hid (S.rowNil 37 2)
    clear S T hsrc hone
    go_enter Tryz.func35, Tryz.ntmps35
    go_wp2
    go_ret
    exact ⟨_, rfl, HS.out⟩
  | some ad =>
    have hsrc2 : ∀ j u, ((l.map mbVals).flatten)[j]? = some u → (w.alloc (.cells #[] 37)).cell? (ad.add j) = some u := by
      rcases hsrc with ⟨h, _⟩ | ⟨ad2, h, h2⟩
      · cases h
      · cases h
        intro j u hj
        exact ((Ext.refl [] w).alloc (.cells #[] 37)).cell (h2 j u hj) (by simp)
    obtain ⟨v2, w2, hrun, S2⟩ := (S.rowNone 37 2).appendFlat 29 29 _ 32 infoBox21 rfl Tryz.underlying29 (by decide) (by decide) (some ad) l.length cap (l.map mbVals).flatten (mbFlat_len l) hone (.inr ⟨ad, rfl, hsrc2⟩) (by omega) (by omega)
    have hq := fun w => Lib.run_eql_slice_nil (P := Tryz.prog) w 29 37 (some ad) l.length cap 0 0 Tryz.underlying29
    have HRUN := Lib.hid hrun
    have HS2 := Lib.hid S2
    clear S T hsrc hone hsrc2 hrun S2
    go_enter Tryz.func35, Tryz.ntmps35
    go_wp2_with (at_builtin; refine wpList_append_run (by rfl) (by rfl) (by rfl) (by rfl) HRUN.out ?_)
    go_ret
    refine ⟨v2, rfl, ?_⟩
    have := HS2.out
    rw [Nat.zero_add, List.nil_append] at this
    exact this
end
end Go.Proofs.YtapenolbbofjkaaGreatDoor

/-! SvX -/
namespace Go.Proofs.YtapenolbbofjkaaGreatDoor
open Go.RowKit Go.Maps

section
variable {w0 w w2 : World} {F0 : List Nat} {L : List Res} {p : Nat} {s : Sv} {K : List Rom} {v : Value}
set_option maxRecDepth 100000 in
set_option maxHeartbeats 1000000 in
theorem svMailboxS (b : Mb) (h1 : b.1.length ≤ 1000000) (h2 : b.2.length ≤ 1000000) (S : Sp w0 [] w L) (E : Env w0) : Calls Tryz.prog 47 #[mbAgg b] w fun e w2 => e = .returned (.bool (mbMay b)) ∧ Sp w0 [] w2 L := by
  obtain ⟨l, d⟩ := b
  have HS0 := Lib.hid (S.box #[.string ⟨l.toArray⟩, .string ⟨d.toArray⟩] 37)
  have HM := Lib.hid (fun (W : World) (L' : List Res) (S' : Sp w0 [] W L') => mayS (l, d) S' E h1 h2)
  unfold mbAgg at *
  dsimp only at *
  clear S E h1 h2
  go_enter Tryz.func47, Tryz.ntmps47
  go_upto_region 1 with (fail)
  generalize w.alloc _ = w1 at *
  generalize w.heap.size = q at *
  have c0 := HS0.out.cell
  go_wp2_with fail
  refine (HM.out _ _ HS0.out).mono ?_
  rintro e w3 ⟨rfl, S3⟩
  have HS3 := Lib.hid S3.drop
  clear S3 HS0 HM c0
  go_wp2
  go_ret
  exact ⟨rfl, HS3.out⟩
set_option maxRecDepth 100000 in
set_option maxHeartbeats 1000000 in
theorem svBadS (b : Mb) (h1 : b.1.length ≤ 1000000) (h2 : b.2.length ≤ 1000000) (S : Sp w0 [] w L) (E : Env w0) : Calls Tryz.prog 46 #[mbAgg b] w fun e w2 => e = .returned (.bool (!mbMay b)) ∧ Sp w0 [] w2 L := by
  obtain ⟨l, d⟩ := b
  have HS0 := Lib.hid (S.box #[.string ⟨l.toArray⟩, .string ⟨d.toArray⟩] 37)
  have HM := Lib.hid (fun (W : World) (L' : List Res) (S' : Sp w0 [] W L') => svMailboxS (l, d) h1 h2 S' E)
  unfold mbAgg at *
  dsimp only at *
  clear S E h1 h2
  go_enter Tryz.func46, Tryz.ntmps46
  go_upto_region 1 with (fail)
  generalize w.alloc _ = w1 at *
  generalize w.heap.size = q at *
  have c0 := HS0.out.cell
  go_wp2_with fail
  refine (HM.out _ _ HS0.out).mono ?_
  rintro e w3 ⟨rfl, S3⟩
  have HS3 := Lib.hid S3.drop
  clear S3 HS0 HM c0
  go_wp2
  go_ret
  exact ⟨rfl, HS3.out⟩
abbrev MbF := {x : Mb // x.1.length ≤ 1000000 ∧ x.2.length ≤ 1000000}
instance : Inhabited MbF := ⟨⟨([], []), by decide⟩⟩
theorem mbFs : ∀ l : List Mb, (∀ x ∈ l, x.1.length ≤ 1000000 ∧ x.2.length ≤ 1000000) → ∃ zs : List MbF, zs.map (·.1) = l
  | [], _ => ⟨[], rfl⟩
  | s :: l, h => by
    obtain ⟨zs, hz⟩ := mbFs l fun t ht => h t (by simp [ht])
    exact ⟨⟨s, h s (by simp)⟩ :: zs, by simp [hz]⟩
set_option maxRecDepth 100000 in
set_option maxHeartbeats 1000000 in
theorem idxNone_any (a : Option Addr) (c : Nat) (f : Value) (w : World) : Calls Tryz.prog 74 #[.slice a 0 c, f] w fun e w2 => e = .returned (.int .i64 (-1)) ∧ w = w2 := by
  go_enter Tryz.func74, Tryz.ntmps74
  go_wp2_with fail
  go_loopw [8] (fun i wr => i = .int .i64 0 ∧ w = wr) (fun _ _ => 0)
  case atStart => exact ⟨rfl, rfl⟩
  case round =>
    obtain ⟨rfl, rfl⟩ := hrel
    go_wp2
    go_ret
    exact ⟨rfl, rfl⟩
set_option maxRecDepth 100000 in
set_option maxHeartbeats 1000000 in
theorem hasNone_any (a : Option Addr) (c : Nat) (f : Value) (w : World) : Calls Tryz.prog 45 #[.slice a 0 c, f] w fun e w2 => e = .returned (.bool false) ∧ w = w2 := by
  have HI := Lib.hid (idxNone_any a c f w)
  go_enter Tryz.func45, Tryz.ntmps45
  go_wp2_with fail
  refine HI.out.mono ?_
  rintro e w2 ⟨rfl, rfl⟩
  go_wp2
  go_ret
  exact ⟨rfl, rfl⟩
theorem svAnyBadS (l : List Mb) (hn : l.length ≤ 1000) (hf : ∀ x ∈ l, x.1.length ≤ 1000000 ∧ x.2.length ≤ 1000000) (T : BxsAt w v l) (S : Sp w0 [] w L) (E : Env w0) : Calls Tryz.prog 45 #[v, .func (.func 46) #[] #[]] w fun e w2 => e = .returned (.bool (l.any fun x => !mbMay x)) ∧ Sp w0 [] w2 L := by
  obtain ⟨zs, rfl⟩ := mbFs l hf
  obtain ⟨a, cap, rfl⟩ := T.form
  have eg : ∀ args w, (callFunc 46 args).run Tryz.prog w = .ok (.enter 46 args) w := enters_of Tryz.func46 (by kernel_rfl) rfl
  by_cases h0 : zs = []
  · subst h0
    refine (hasNone_any a cap _ w).mono ?_
    rintro e w2 ⟨rfl, rfl⟩
    exact ⟨rfl, S⟩
  · obtain ⟨b, off, rfl, hc, _⟩ := T.at (i := 0) (by simpa using List.length_pos_iff.2 h0)
    have hlt : b < w.heap.size := by
      apply Classical.byContradiction
      intro hn2
      have h2 : w.heap[b]? = none := Array.getElem?_eq_none (by omega)
      simp [World.cell?, h2] at hc
    have hp : PredBelow Tryz.prog 46 #[] (fun x : MbF => .agg (mbVals x.1).toArray) (fun x => !mbMay x.1) w := fun W x hb => (svBadS (w0 := W) (L := []) x.1 x.2.1 x.2.2 (Sp.nil W []) (E.ext (S.ext.trans (Ext.of_below hb) (by simp)))).mono fun _ _ ⟨he, hx⟩ => ⟨he, hb.trans ((hx.ext.below (Nat.le_refl _) (by simp)).mono hb.size)⟩
    refine (AnyQ.slices_ContainsFunc Tryz.conB 2 (fun w => by kernel_rfl) (fun w => by kernel_rfl) (fun x : MbF => mbVals x.1) (fun _ => rfl) (fun x => !mbMay x.1) _ #[] eg b off _ cap zs w hp (by simp) (by rw [List.length_map] at *; omega) hlt (fun j hj i u hu => ?_)).mono ?_
    · obtain ⟨a2, cap2, h1, h2⟩ := T
      cases h1
      have hr : ((zs.map (·.1)).map mbVals)[j]? = some (mbVals (zs[j]!).1) := by rw [List.map_map, List.getElem?_map, List.getElem?_eq_getElem hj, getElem!_pos zs j hj]; rfl
      exact h2.at j _ hr i u hu
    · rintro e w2 ⟨rfl, hb⟩
      refine ⟨?_, S.ext0 (Ext.of_below hb)⟩
      rw [List.any_map, List.length_map, List.take_length]
      rfl
set_option maxRecDepth 100000 in
set_option maxHeartbeats 4000000 in
theorem svMayS (host : Bs) (most : Int) (vr vb : Value) (rules : List Rl) (boxes : List Mb) (hh : host.length ≤ 1000000) (hm : -9223372036854775808 ≤ most ∧ most ≤ 9223372036854775807) (hr : rules.length ≤ 1000) (hre : ∀ r ∈ rules, r.Fit) (hb : boxes.length ≤ 1000) (hbe : ∀ x ∈ boxes, x.1.length ≤ 1000000 ∧ x.2.length ≤ 1000000)
    (TR : ∀ W, Sp w0 [] W L → RlsAt W vr rules) (TB : ∀ W, Sp w0 [] W L → BxsAt W vb boxes) (S : Sp w0 [] w L) (E : Env w0) : Calls Tryz.prog 23 #[.agg #[.string ⟨host.toArray⟩, .int .i64 most, vr, vb]] w fun e w2 => e = .returned (.bool (cfMay host most rules boxes)) ∧ Sp w0 [] w2 L := by
  obtain ⟨bn, bc, rfl⟩ := (TB _ S).form
  obtain ⟨rn, rc, rfl⟩ := (TR _ S).form
  have HS0 := Lib.hid (S.box #[.string ⟨host.toArray⟩, .int .i64 most, .slice rn rules.length rc, .slice bn boxes.length bc] 31)
  have HD := Lib.hid (fun (W : World) (L' : List Res) (S' : Sp w0 [] W L') => domainS host S' E hh)
  have HRL := Lib.hid (fun (W : World) (r : Res) (S' : Sp w0 [] W (r :: L)) => Calls.sp2 (rlsMay_any rules (by omega) hre (TR W S'.drop) (E.sp S')) S')
  have HBX := Lib.hid (fun (W : World) (r : Res) (S' : Sp w0 [] W (r :: L)) => svAnyBadS boxes hb hbe (TB W S'.drop) S' E)
  have HV : Hid (cfMay host most rules boxes = (((domV host).2 == 0 && (domV host).1 == host) && (decide (1 ≤ most) && (decide (most ≤ 15000) && (rlsMay rules && (decide (boxes.length ≤ 100) && boxes.all mbMay)))))) := rfl
  have HAL : Hid (boxes.all mbMay = !(boxes.any fun x => !mbMay x)) := by
    unfold Hid
    rw [List.not_any_eq_all_not]
    simp
  generalize cfMay host most rules boxes = res at *
  generalize domV host = dv at *
  obtain ⟨d, e⟩ := dv
  generalize rlsMay rules = rm at *
  rw [HAL.out] at HV
  generalize (boxes.any fun x => !mbMay x) = bm at *
  have hbi : (boxes.length : Int) ≤ 1000 := by omega
  dsimp only at *
  clear S E TR TB hre hbe hh HAL
  go_enter Tryz.func23, Tryz.ntmps23
  go_upto_region 1 with (fail)
  generalize w.alloc _ = w1 at *
  generalize w.heap.size = q at *
  have c0 := HS0.out.cell
  go_wp2_with fail
  refine (HD.out _ _ HS0.out).mono ?_
  rintro ex w3 ⟨rfl, S3⟩
  have HS3 := Lib.hid S3
  have HS3D := Lib.hid S3.drop
  have c3 := S3.cell
  clear S3 HS0 HD c0
  by_cases h1 : e = 0
  rotate_left
  · have b1 : (e == 0) = false := by simpa using h1
    have b1' : (e != 0) = true := by simpa using h1
    have HW : Hid (res = false) := by unfold Hid; rw [HV.out, b1]; rfl
    clear HV HRL HBX h1
    go_wp2
    all_goals
      go_ret
      exact ⟨by rw [HW.out]; try rfl, HS3D.out⟩
  subst h1
  by_cases h2 : d = host
  rotate_left
  · have b2 : (d == host) = false := by simpa using h2
    have b2' : (d != host) = true := by simpa using h2
    have HW : Hid (res = false) := by unfold Hid; rw [HV.out, b2]; simp
    clear HV HRL HBX h2
    go_wp2
    all_goals
      go_ret
      exact ⟨by rw [HW.out]; try rfl, HS3D.out⟩
  subst h2
  by_cases h3 : 1 ≤ most
  rotate_left
  · have b3 : decide (1 ≤ most) = false := decide_eq_false h3
    have h3' : most < 1 := by omega
    have b3' : decide (most < 1) = true := decide_eq_true h3'
    have HW : Hid (res = false) := by unfold Hid; rw [HV.out, b3]; simp
    clear HV HRL HBX h3
    go_wp2
    all_goals
      go_ret
      exact ⟨by rw [HW.out]; try rfl, HS3D.out⟩
  by_cases h4 : most ≤ 15000
  rotate_left
  · have b4 : decide (most ≤ 15000) = false := decide_eq_false h4
    have h4' : 15000 < most := by omega
    have b4' : decide (15000 < most) = true := decide_eq_true h4'
    have b3' : decide (most < 1) = false := decide_eq_false (by omega)
    have HW : Hid (res = false) := by unfold Hid; rw [HV.out, b4]; simp
    clear HV HRL HBX h4
    go_wp2
    all_goals
      go_ret
      exact ⟨by rw [HW.out]; try rfl, HS3D.out⟩
  have b3' : decide (most < 1) = false := decide_eq_false (by omega)
  have b4' : decide (15000 < most) = false := decide_eq_false (by omega)
  have HV2 : Hid (res = (rm && (decide (boxes.length ≤ 100) && !bm))) := by unfold Hid; rw [HV.out, decide_eq_true h3, decide_eq_true h4]; simp
  clear HV
  cases hrm : rm with
  | false =>
    have HW : Hid (res = false) := by unfold Hid; rw [HV2.out, hrm]; rfl
    rw [hrm] at HRL
    clear HV2 HBX hrm
    go_wp2_with fail
    refine (HRL.out _ _ HS3.out).mono ?_
    rintro ex w4 ⟨rfl, S4⟩
    have HS4 := Lib.hid S4.drop
    clear S4
    go_wp2
    all_goals
      go_ret
      exact ⟨by rw [HW.out]; try rfl, HS4.out⟩
  | true =>
    rw [hrm] at HRL HV2
    rw [Bool.true_and] at HV2
    clear hrm
    go_wp2_with fail
    refine (HRL.out _ _ HS3.out).mono ?_
    rintro ex w4 ⟨rfl, S4⟩
    have HS4 := Lib.hid S4
    have HS4D := Lib.hid S4.drop
    have c4 := S4.cell
    clear S4 c3 HS3 HS3D HRL
    by_cases h6 : boxes.length ≤ 100
    · have h6' : (boxes.length : Int) ≤ 100 := by omega
      have HW : Hid (res = !bm) := by unfold Hid; rw [HV2.out, decide_eq_true h6]; rfl
      clear HV2 h6
      go_wp2_with fail
      refine (HBX.out _ _ HS4.out).mono ?_
      rintro ex w5 ⟨rfl, S5⟩
      have HS5 := Lib.hid S5.drop
      clear S5
      go_wp2
      all_goals
        go_ret
        exact ⟨by rw [HW.out]; try rfl, HS5.out⟩
    · have h6' : (100 : Int) < boxes.length := by omega
      have HW : Hid (res = false) := by unfold Hid; rw [HV2.out, decide_eq_false h6]; rfl
      clear HV2 h6
      go_wp2
      all_goals
        go_ret
        exact ⟨by rw [HW.out]; try rfl, HS4D.out⟩
/-! ### New -/
def NewTo (w0 : World) (L : List Res) (host : Bs) (most : Int) (rules : List Rl) (boxes : List Mb) (e : Ending) (w2 : World) : Prop :=
  if cfMay host most rules boxes = true then ∃ p K, e = .returned (.tuple #[.pointer (some ⟨p, 0, none⟩), .int .i64 0]) ∧ SvAt w0 L p (svNew ⟨host, most.toNat, rules, boxes⟩) K w2
  else e = .returned (.tuple #[.pointer none, .int .i64 1]) ∧ Sp w0 [] w2 L
theorem rlVals_len (l : List Rl) : ∀ x ∈ l.map Rl.vals, x.length = 3 := fun x hx => by
  obtain ⟨r, _, rfl⟩ := List.mem_map.1 hx
  rfl
theorem mbVals_len (l : List Mb) : ∀ x ∈ l.map mbVals, x.length = 2 := fun x hx => by
  obtain ⟨r, _, rfl⟩ := List.mem_map.1 hx
  rfl
/-- A session laid anew. -/
theorem SvAt.laid {c : Cf} {vr vb : Value} {rb p : Nat} (S : Sp w0 [] w (boxR p #[.string ⟨c.host.toArray⟩, .int .i64 c.most, vr, vb, .pointer (some ⟨rb, 0, none⟩), .int .i64 0, .string ⟨#[]⟩, .bool false, .string ⟨#[]⟩, .string ⟨#[]⟩, .slice none 0 0, .slice none 0 0, .int .i64 0, .bool false, .int .i64 0, .slice none 0 0] 79 :: lrdR rb [] :: rowR 65 3 vr c.rules.length (c.rules.map Rl.vals).flatten :: rowR 37 2 vb c.boxes.length (c.boxes.map mbVals).flatten :: L)) :
    ∃ K, SvAt w0 L p (⟨c, [], 0, [], tr0, 0, []⟩ : Sv) K w := by
  have S2 := (Sp.pick [_, _, _, _] [2, 3, 0, 1] (by decide) (S))
  have S3 := ((Sp.pick [_, _] [1, 0] (by decide) (S2))).romNil
  have e1 : (c.boxes.map mbVals).length = c.boxes.length := List.length_map _
  have e2 : (c.rules.map Rl.vals).length = c.rules.length := List.length_map _
  rw [← e1, ← e2] at S3
  have S4 := ((Sp.pick [_, _, _] [1, 0, 2] (by decide) (S3))).romMore (mbVals_len c.boxes)
  have S5 := ((Sp.pick [_, _] [1, 0] (by decide) (S4))).romMore (rlVals_len c.rules)
  have S6 := ((S5.rowNil 37 2).textsNil).rowONil 39 8
  refine ⟨[⟨vr, 3, c.rules.map Rl.vals⟩, ⟨vb, 2, c.boxes.map mbVals⟩], ⟨vr, vb, .slice none 0 0, .slice none 0 0, .slice none 0 0, rb, []⟩, ⟨by simp, by simp, rfl, by simp⟩, ?_⟩
  exact (Sp.pick [_, _, _, _, _, _] [4, 5, 2, 1, 0, 3] (by decide) (S6))
set_option maxRecDepth 100000 in
set_option maxHeartbeats 4000000 in
theorem svNewS (host : Bs) (most : Int) (vr vb : Value) (rules : List Rl) (boxes : List Mb) (hh : host.length ≤ 1000) (hm : -9223372036854775808 ≤ most ∧ most ≤ 9223372036854775807) (hr : rules.length ≤ 1000) (hre : ∀ r ∈ rules, r.Fit) (hb : boxes.length ≤ 1000) (hbe : ∀ x ∈ boxes, x.1.length ≤ 1000000 ∧ x.2.length ≤ 1000000)
    (TR : ∀ W, Sp w0 [] W L → RlsAt W vr rules) (TB : ∀ W, Sp w0 [] W L → BxsAt W vb boxes) (S : Sp w0 [] w L) (E : Env w0) : Calls Tryz.prog 9 #[.agg #[.string ⟨host.toArray⟩, .int .i64 most, vr, vb]] w (NewTo w0 L host most rules boxes) := by
  have HMAY := Lib.hid (fun (W : World) (r : Res) (S' : Sp w0 [] W (r :: L)) => svMayS host most vr vb rules boxes (by omega) hm hr hre hb hbe (fun W S => TR W S.drop) (fun W S => TB W S.drop) S' E)
  obtain ⟨bn, bc, rfl⟩ := (TB _ S).form
  obtain ⟨rn, rc, rfl⟩ := (TR _ S).form
  have HS0 := Lib.hid (S.box #[.string ⟨host.toArray⟩, .int .i64 most, .slice rn rules.length rc, .slice bn boxes.length bc] 31)
  have HCR := Lib.hid (fun (W : World) (L' : List Res) (S' : Sp w0 [] W (L' ++ L)) => cloneRlS rules (by omega) (TR W (Sp.drops L' S')) S')
  have HCB := Lib.hid (fun (W : World) (L' : List Res) (S' : Sp w0 [] W (L' ++ L)) => cloneMbS boxes (by omega) (TB W (Sp.drops L' S')) S')
  have HMB : Hid (cfMay host most rules boxes = true → 1 ≤ most ∧ most ≤ 15000) := fun h => by
    unfold cfMay at h
    simp only [Bool.and_eq_true, decide_eq_true_eq] at h
    exact ⟨h.2.1, h.2.2.1⟩
  have HFT : Hid (most ≤ 15000 → (⟨⟨host, most.toNat, rules, boxes⟩, [], 0, [], tr0, 0, []⟩ : Sv).Fit) := fun h => ⟨hh, by show most.toNat ≤ 15000; omega, Nat.zero_le _, Nat.zero_le _, hr, hre, hb⟩
  have HOUT : Hid (∀ e W, NewTo w0 L host most rules boxes e W = if cfMay host most rules boxes = true then ∃ p K, e = .returned (.tuple #[.pointer (some ⟨p, 0, none⟩), .int .i64 0]) ∧ SvAt w0 L p (svNew ⟨host, most.toNat, rules, boxes⟩) K W else e = .returned (.tuple #[.pointer none, .int .i64 1]) ∧ Sp w0 [] W L) := fun _ _ => rfl
  clear S TR TB hre hbe hm
  go_enter Tryz.func9, Tryz.ntmps9
  go_upto_region 1 with (fail)
  generalize w.alloc _ = w1 at *
  generalize w.heap.size = q at *
  have c0 := HS0.out.cell
  go_wp2_with fail
  refine (HMAY.out _ _ HS0.out).mono ?_
  rintro ex w3 ⟨rfl, S3⟩
  have HS3 := Lib.hid S3
  have c3 := S3.cell
  clear S3 HS0 c0 HMAY
  cases hmay : cfMay host most rules boxes with
  | false =>
    have HS4 := Lib.hid HS3.out.drop
    go_wp2
    go_ret2
    rw [HOUT.out, hmay]
    exact ⟨rfl, HS4.out⟩
  | true =>
    obtain ⟨m1, m2⟩ := HMB.out hmay
    obtain ⟨mn, rfl⟩ : ∃ mn : Nat, most = mn := ⟨most.toNat, by omega⟩
    rw [hmay] at HOUT
    simp only [Int.toNat_natCast, if_true] at HOUT HFT
    have HFT2 := Lib.hid (HFT.out m2)
    clear c3 hmay HMB HFT m1 m2
    go_upto_region 3 with (fail)
    have c3 := HS3.out.cell
    go_region_law (first
      | (refine if_wanted rfl ?_; go_simp; go_at_call 34; refine (HCR.out _ [_] HS3.out.drew).mono ?_; rintro e w7 ⟨vr2, rfl, S7⟩; obtain ⟨ra, rn2, rc2, rfl⟩ : ∃ a n c, vr2 = .slice a n c := (by rcases S7.rowForm with ⟨h, _⟩ | ⟨g, c, h⟩; exact ⟨_, _, _, h⟩; exact ⟨_, _, _, h⟩); have HS7 := Lib.hid S7; have c7 := S7.pull1.cell; clear S7)
      | (refine if_wanted rfl ?_; go_simp; go_at_call 35; refine (HCB.out _ [_, _] HS7.out).mono ?_; rintro e w8 ⟨vb2, rfl, S8⟩; obtain ⟨ba, bn2, bc2, rfl⟩ : ∃ a n c, vb2 = .slice a n c := (by rcases S8.rowForm with ⟨h, _⟩ | ⟨g, c, h⟩; exact ⟨_, _, _, h⟩; exact ⟨_, _, _, h⟩); have HS8 := Lib.hid ((Sp.pick [_, _, _] [2, 1, 0] (by decide) (S8))); have c8 := ((Sp.pick [_, _, _] [2, 1, 0] (by decide) (S8))).cell; have f8 := ((Sp.pick [_, _, _] [2, 1, 0] (by decide) (S8))).free; clear S8))
    all_goals
      have HSF := Lib.hid ((HS8.out.set (o := 2) (.slice ra rn2 rc2)).set (o := 3) (.slice ba bn2 bc2))
      clear HS3 HS7 HS8 HCR HCB c3 c7 c8 f8
      go_upto_region 4 with (fail)
      generalize World.setCell _ _ _ = w9 at *
      have c9 := HSF.out.cell
      go_region_law (first
        | (refine if_wanted rfl ?_; go_simp; go_at_call 36; refine (lrdNewS HSF.out.drew).mono ?_; rintro e w10 ⟨rb, rfl, S10⟩; have HS10 := Lib.hid S10; have c10 := S10.pull1.cell; clear S10))
      all_goals
        obtain ⟨K0, A0⟩ := SvAt.laid (c := ⟨host, mn, rules, boxes⟩) ((Sp.pick [_, _, _, _, _] [0, 1, 3, 4] (by decide) ((HS10.out.box #[.string ⟨host.toArray⟩, .int .i64 mn, .slice ra rn2 rc2, .slice ba bn2 bc2, .pointer (some ⟨rb, 0, none⟩), .int .i64 0, .string ⟨#[]⟩, .bool false, .string ⟨#[]⟩, .string ⟨#[]⟩, .slice none 0 0, .slice none 0 0, .int .i64 0, .bool false, .int .i64 0, .slice none 0 0] 79))))
        have HA0 := Lib.hid A0
        clear A0 c9 c10 HSF
        go_upto_region 5 with (fail)
        generalize w10.alloc _ = w11 at *
        generalize w10.heap.size = pp at *
        clear HS10
        go_wp2_with fail
        refine (svSayS 220 HFT2.out (Nat.zero_le _) (Nat.zero_le _) HA0.out).mono ?_
        rintro e w12 ⟨rfl, K2, _, A2⟩
        have HA2 := Lib.hid A2
        clear A2
        go_wp2
        go_ret2
        rw [HOUT.out]
        exact ⟨pp, K2, rfl, HA2.out⟩
end
end Go.Proofs.YtapenolbbofjkaaGreatDoor
