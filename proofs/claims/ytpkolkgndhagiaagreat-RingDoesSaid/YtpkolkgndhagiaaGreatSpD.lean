/- The contracts of disk, pack and strings.Builder, in the words of parts. Conditions: the lengths fit. -/
import Derived.Test.YtpkolkgndhagiaaGreatSp
import Derived.Test.YtpkolkgndhagiaaGreatBld
import Derived.Test.YtpkolkgndhagiaaGreatRd
import Derived.Test.YtpkolkgndhagiaaGreatMap
import Derived.Test.YtpkolkgndhagiaaGreatRoom
set_option linter.unusedSimpArgs false
set_option linter.unusedVariables false
set_option linter.unnecessarySimpa false
namespace Go.Proofs.YtpkolkgndhagiaaGreat
open Go.RowKit Go.Maps

abbrev rdR (T b : Nat) (r : Rd) : Res := boxR b #[.string ⟨r.s.toArray⟩, .bool r.bad] T
abbrev bldR (T b : Nat) (l : Bs) : Res where
  holds := fun F w => Bld T w b F l
  keeps := fun h hx hd => h.ext hx hd
  inside := fun h => h.lt
abbrev diskR (p : Nat) (D : Dk) : Res where
  holds := fun F w => Disk w p F D
  keeps := fun h hx hd => h.ext hx hd
  inside := fun h => h.lt
abbrev mapR {V : Type} (k : TypeId) (enc : V → Value) (b : Nat) (M : Mp V) : Res where
  holds := fun F w => F = [b] ∧ MapOf Tryz.prog k enc w b M
  keeps := fun h hx hd => ⟨h.1, h.2.ext hx (hd b (by simp [h.1]))⟩
  inside := fun h x hx => by rw [h.1] at hx; simp at hx; subst hx; exact h.2.lt

section
variable {V : Type} {enc : V → Value} {t k e b : Nat} {w0 w : World} {F0 : List Nat} {L : List Res} {M : Mp V}
theorem Sp.map (S : Sp w0 F0 w (mapR k enc b M :: L)) : MapOf Tryz.prog k enc w b M := by
  obtain ⟨F, ⟨rfl, h⟩, _⟩ := S.take
  exact h
theorem Sp.mapMade (S : Sp w0 F0 w L) (k : TypeId) (enc : V → Value) : Sp w0 F0 (w.alloc (.map #[] 0)) (mapR k enc w.heap.size [] :: L) :=
  S.gain (G := [w.heap.size]) ((Ext.refl [] w).alloc _) ⟨rfl, MapOf.made w⟩ (by simp)
theorem Sp.mapTo {M2 : Mp V} {w2 : World} (S : Sp w0 F0 w (mapR k enc b M :: L)) (h : MapOf Tryz.prog k enc w2 b M2) (hx : Ext [b] w w2) : Sp w0 F0 w2 (mapR k enc b M2 :: L) := by
  obtain ⟨F, ⟨rfl, _⟩, h2⟩ := S.take
  exact h2 _ _ [b] ⟨rfl, h⟩ (Moved.of_ext hx)
theorem Sp.mapPut (S : Sp w0 F0 w (mapR k enc b M :: L)) (hk : Keyed Tryz.prog k) (ht : Tryz.prog.underlying t = some (.map k e)) (hn : M.length < maxLen) {key : Value} {x : Bs} (hx : keyOf Tryz.prog k key = some (.string x)) (v : V) :
    ∃ w2, (Instr.mapUpdate t (.map (some b)) key (enc v)).run Tryz.prog w = .ok () w2 ∧ Sp w0 F0 w2 (mapR k enc b (M.put x v) :: L) ∧ w2.heap.size = w.heap.size := by
  obtain ⟨w2, h1, h2, h3, h4⟩ := S.map.update hk ht hn hx v
  exact ⟨w2, h1, S.mapTo h2 h3, h4⟩
end
section
variable {w0 w w2 : World} {F0 : List Nat} {L : List Res} {T b p : Nat} {l s : Bs}
variable {D D2 : Dk}
variable {r : Rd}
theorem Sp.rd (S : Sp w0 F0 w (rdR T b r :: L)) : RdAt T w b r := S.boxed
theorem Sp.rdTo {r2 : Rd} (S : Sp w0 F0 w (rdR T b r :: L)) (h : RdAt T w2 b r2) (hx : Ext [b] w w2) : Sp w0 F0 w2 (rdR T b r2 :: L) := by
  obtain ⟨F, ⟨rfl, h1⟩, h2⟩ := S.take
  exact h2 _ _ [b] ⟨rfl, h⟩ (Moved.of_ext hx)
theorem rdTextS (most : Nat) (mi : Int) (hmi : mi = most) (S : Sp w0 F0 w (rdR T b r :: L)) (hs : r.s.length ≤ 1000000000000) (hm : most ≤ 1000000000000) :
    Calls Tryz.prog 57 #[.pointer (some ⟨b, 0, none⟩), .int .i64 mi] w fun e w2 => e = .returned (.string ⟨(r.text most).1.toArray⟩) ∧ Sp w0 F0 w2 (rdR T b (r.text most).2 :: L) :=
  (rdTextL T b r most mi w hmi S.rd hs hm).mono fun _ _ ⟨he, h, hx⟩ => ⟨he, S.rdTo h hx⟩
theorem rdNumS (most : Nat) (mi : Int) (hmi : mi = most) (S : Sp w0 F0 w (rdR T b r :: L)) (hs : r.s.length ≤ 1000000000000) :
    Calls Tryz.prog 58 #[.pointer (some ⟨b, 0, none⟩), .int .u64 mi] w fun e w2 => e = .returned (.int .u64 (r.num most).1) ∧ Sp w0 F0 w2 (rdR T b (r.num most).2 :: L) :=
  (rdNumL T b r most mi w hmi S.rd hs).mono fun _ _ ⟨he, h, hx⟩ => ⟨he, S.rdTo h hx⟩
theorem rdDoneS (S : Sp w0 F0 w (rdR T b r :: L)) : Calls Tryz.prog 59 #[.pointer (some ⟨b, 0, none⟩)] w fun e w2 => e = .returned (.int .i64 r.done) ∧ w = w2 := rdDone_any T b r w S.rd
theorem rdLeftS (S : Sp w0 F0 w (rdR T b r :: L)) : Calls Tryz.prog 35 #[.pointer (some ⟨b, 0, none⟩)] w fun e w2 => e = .returned (.int .i64 r.s.length) ∧ w = w2 := rdLeft_any T b r w S.rd
theorem fromS (S : Sp w0 F0 w L) (s : Bs) : Calls Tryz.prog 33 #[.string ⟨s.toArray⟩] w fun e w2 => ∃ b, e = .returned (.pointer (some ⟨b, 0, none⟩)) ∧ Sp w0 F0 w2 (rdR 78 b ⟨s, false⟩ :: L) :=
  (from_any s w).mono fun _ _ ⟨he, h, hx, _⟩ => ⟨_, he, S.gain (G := [w.heap.size]) hx ⟨rfl, h⟩ (by simp)⟩

theorem Bld.fresh (w : World) (T : TypeId) : Bld T (w.alloc (.cells #[.pointer none, .slice none 0 0] T)) w.heap.size [w.heap.size] [] :=
  ⟨_, _, .inl rfl, heap_alloc_new _ _, World.ownsRowF_nil _ _ _ _, by simp [Value.ownBlock], by simp [Value.ownBlock]⟩
theorem Sp.bld (S : Sp w0 F0 w L) (T : TypeId) : Sp w0 F0 (w.alloc (.cells #[.pointer none, .slice none 0 0] T)) (bldR T w.heap.size [] :: L) :=
  S.gain ((Ext.refl [] w).alloc _) (Bld.fresh w T) (by simp)
theorem outTextS (S : Sp w0 F0 w (bldR 129 b l :: L)) (hl : l.length ≤ 1000000000000) (hs : s.length ≤ 1000000000000) :
    Calls Tryz.prog 87 #[.pointer (some ⟨b, 0, none⟩), .string ⟨s.toArray⟩] w fun e w2 => e = .returned (.tuple #[]) ∧ Sp w0 F0 w2 (bldR 129 b (l ++ textB s) :: L) := by
  obtain ⟨F, h, hk⟩ := S.take
  exact (outText_any b F l s w h hl hs).mono fun _ _ ⟨he, F2, h2, m⟩ => ⟨he, hk _ _ F2 h2 m⟩
theorem outNumS (n : Nat) (S : Sp w0 F0 w (bldR 129 b l :: L)) (hl : l.length ≤ 1000000000000) (hn : n < 18446744073709551616) :
    Calls Tryz.prog 88 #[.pointer (some ⟨b, 0, none⟩), .int .u64 n] w fun e w2 => e = .returned (.tuple #[]) ∧ Sp w0 F0 w2 (bldR 129 b (l ++ numB n) :: L) := by
  obtain ⟨F, h, hk⟩ := S.take
  exact (outNum_any b F l n w h hl hn).mono fun _ _ ⟨he, F2, h2, m⟩ => ⟨he, hk _ _ F2 h2 m⟩
theorem bldStringS (S : Sp w0 F0 w (bldR T b l :: L)) (h0 : l ≠ []) :
    Calls Tryz.prog 89 #[.pointer (some ⟨b, 0, none⟩)] w fun e w2 => e = .returned (.string ⟨l.toArray⟩) ∧ Sp w0 F0 w2 L := by
  obtain ⟨F, h, hk⟩ := S.take
  refine (bldString_any T b F l w h h0).mono fun _ w2 ⟨he, hx⟩ => ⟨he, ?_⟩
  exact (hk w2 ⟨fun F _ => F = [], fun h _ _ => h, fun h x hx => by rw [h] at hx; cases hx⟩ [] rfl ⟨hx, by simp⟩).drop
theorem packTextS (S : Sp w0 F0 w L) (s : Bs) (hs : s.length ≤ 1000000000000) : Calls Tryz.prog 50 #[.string ⟨s.toArray⟩] w fun e w2 => e = .returned (.string ⟨(textB s).toArray⟩) ∧ Sp w0 F0 w2 L :=
  (packText_any s w hs).mono fun _ _ ⟨he, hx⟩ => ⟨he, S.ext0 hx⟩
theorem packNumS (S : Sp w0 F0 w L) (n : Nat) (hn : n < 18446744073709551616) : Calls Tryz.prog 51 #[.int .u64 n] w fun e w2 => e = .returned (.string ⟨(numB n).toArray⟩) ∧ Sp w0 F0 w2 L :=
  (packNum_any n w hn).mono fun _ _ ⟨he, hx⟩ => ⟨he, S.ext0 hx⟩
theorem Sp.disk (S : Sp w0 F0 w (diskR p D :: L)) : ∃ F, Disk w p F D ∧ ∀ w2 D2, DiskTo F w p w2 D2 → Sp w0 F0 w2 (diskR p D2 :: L) := by
  obtain ⟨F, h, hk⟩ := S.take
  exact ⟨F, h, fun w2 D2 ⟨F2, h2, m⟩ => hk _ _ F2 h2 m⟩
theorem newS (S : Sp w0 F0 w L) : Calls Tryz.prog 5 #[] w fun r w2 => ∃ p, r = .returned (.pointer (some ⟨p, 0, none⟩)) ∧ Sp w0 F0 w2 (diskR p Dk.new :: L) :=
  (new_any w).mono fun _ _ ⟨p, _, he, h, hx, hn⟩ => ⟨p, he, S.gain hx h hn⟩
theorem syncS (S : Sp w0 F0 w (diskR p D :: L)) (hs : D.Small) : Calls Tryz.prog 37 #[.pointer (some ⟨p, 0, none⟩)] w fun r w2 => r = .returned (.int .i64 D.sync.2) ∧ Sp w0 F0 w2 (diskR p D.sync.1 :: L) := by
  obtain ⟨F, h, hk⟩ := S.disk
  exact (sync_any p F D w h hs).mono fun _ _ ⟨he, h2⟩ => ⟨he, hk _ _ h2⟩
theorem appendS (n d : Bs) (S : Sp w0 F0 w (diskR p D :: L)) (hs : D.Small) (hn : n.length < 1000000000000000000) (hd : d.length < 1000000000000000000) :
    Calls Tryz.prog 69 #[.pointer (some ⟨p, 0, none⟩), .string ⟨n.toArray⟩, .string ⟨d.toArray⟩] w fun r w2 => r = .returned (.int .i64 (D.append n d).2) ∧ Sp w0 F0 w2 (diskR p (D.append n d).1 :: L) := by
  obtain ⟨F, h, hk⟩ := S.disk
  exact (append_any p F D n d w h hs hn hd).mono fun _ _ ⟨he, h2⟩ => ⟨he, hk _ _ h2⟩
theorem writeS (n d : Bs) (S : Sp w0 F0 w (diskR p D :: L)) (hs : D.Small) (hn : n.length < 1000000000000000000) (hd : d.length < 1000000000000000000) :
    Calls Tryz.prog 36 #[.pointer (some ⟨p, 0, none⟩), .string ⟨n.toArray⟩, .string ⟨d.toArray⟩] w fun r w2 => r = .returned (.int .i64 (D.write n d).2) ∧ Sp w0 F0 w2 (diskR p (D.write n d).1 :: L) := by
  obtain ⟨F, h, hk⟩ := S.disk
  exact (write_any p F D n d w h hs hn hd).mono fun _ _ ⟨he, h2⟩ => ⟨he, hk _ _ h2⟩
theorem readS (n : Bs) (S : Sp w0 F0 w (diskR p D :: L)) (hn : n.length ≤ maxLen) :
    Calls Tryz.prog 22 #[.pointer (some ⟨p, 0, none⟩), .string ⟨n.toArray⟩] w fun r w2 => r = .returned (.tuple #[.string ⟨((D.now.get n).getD []).toArray⟩, .int .i64 (if D.now.has n then 0 else 10)]) ∧ w = w2 := by
  obtain ⟨F, h, hk⟩ := S.disk
  exact read_any p F D n w h hn
theorem quotaS (n : Int) (S : Sp w0 F0 w (diskR p D :: L)) : Calls Tryz.prog 18 #[.pointer (some ⟨p, 0, none⟩), .int .i64 n] w fun r w2 => r = .returned (.tuple #[]) ∧ Sp w0 F0 w2 (diskR p { D with quota := max n 0 } :: L) := by
  obtain ⟨F, h, hk⟩ := S.disk
  exact (quota_any p F D n w h).mono fun _ _ ⟨he, h2, hx⟩ => ⟨he, hk _ _ ⟨F, h2, Moved.of_ext hx⟩⟩
theorem fuseS (n : Int) (S : Sp w0 F0 w (diskR p D :: L)) : Calls Tryz.prog 14 #[.pointer (some ⟨p, 0, none⟩), .int .i64 n] w fun r w2 => r = .returned (.tuple #[]) ∧ Sp w0 F0 w2 (diskR p (D.setFuse n) :: L) := by
  obtain ⟨F, h, hk⟩ := S.disk
  exact (fuse_any p F D n w h).mono fun _ _ ⟨he, h2, hx⟩ => ⟨he, hk _ _ ⟨F, h2, Moved.of_ext hx⟩⟩
theorem crashS (n : Int) (S : Sp w0 F0 w (diskR p D :: L)) (hf : D.CrashFit) : Calls Tryz.prog 16 #[.pointer (some ⟨p, 0, none⟩), .int .i64 n] w fun r w2 => r = .returned (.tuple #[]) ∧ Sp w0 F0 w2 (diskR p (D.crash n) :: L) := by
  obtain ⟨F, h, hk⟩ := S.disk
  exact (crash_any p F D n w h hf).mono fun _ _ ⟨he, h2⟩ => ⟨he, hk _ _ h2⟩
end
end Go.Proofs.YtpkolkgndhagiaaGreat
