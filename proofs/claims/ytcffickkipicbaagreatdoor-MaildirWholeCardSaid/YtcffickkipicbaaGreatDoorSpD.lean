/- The contracts of disk, pack and strings.Builder, in the words of parts. Conditions: the lengths fit. -/
import Derived.Test.YtcffickkipicbaaGreatDoorSp
import Derived.Test.YtcffickkipicbaaGreatDoorChecked
import Derived.Test.YtcffickkipicbaaGreatDoorMap
import Derived.Test.YtcffickkipicbaaGreatDoorRoom
set_option linter.unusedSimpArgs false
set_option linter.unusedVariables false
set_option linter.unnecessarySimpa false
namespace Go.Proofs.YtcffickkipicbaaGreatDoor
open Go.RowKit Go.Maps

abbrev diskR (p : Nat) (D : Dk) : Res where
  holds := fun F w => Disk w p F D
  keeps := fun h hx hd => h.ext hx hd
  inside := fun h => h.lt
abbrev mapR {V : Type} (k : TypeId) (enc : V → Value) (b : Nat) (M : Mp V) : Res where
  holds := fun F w => F = [b] ∧ MapOf Tryz.prog k enc w b M
  keeps := fun h hx hd => ⟨h.1, h.2.ext hx (hd b (by simp [h.1]))⟩
  inside := fun h x hx => by rw [h.1] at hx; simp at hx; subst hx; exact h.2.lt

section
variable {V : Type} {enc : V → Value} {t k e b : Nat} {w0 w : World} {F0 : List Nat} {L : List Res} {M : Mp V}
theorem Sp.map (S : Sp w0 F0 w (mapR k enc b M :: L)) : MapOf Tryz.prog k enc w b M := by
  obtain ⟨F, ⟨rfl, h⟩, _⟩ := S.take
  exact h
theorem Sp.mapMade (S : Sp w0 F0 w L) (k : TypeId) (enc : V → Value) : Sp w0 F0 (w.alloc (.map #[] 0)) (mapR k enc w.heap.size [] :: L) :=
  S.gain (G := [w.heap.size]) ((Ext.refl [] w).alloc _) ⟨rfl, MapOf.made w⟩ (by simp)
theorem Sp.mapTo {M2 : Mp V} {w2 : World} (S : Sp w0 F0 w (mapR k enc b M :: L)) (h : MapOf Tryz.prog k enc w2 b M2) (hx : Ext [b] w w2) : Sp w0 F0 w2 (mapR k enc b M2 :: L) := by
  obtain ⟨F, ⟨rfl, _⟩, h2⟩ := S.take
  exact h2 _ _ [b] ⟨rfl, h⟩ (Moved.of_ext hx)
theorem Sp.mapPut (S : Sp w0 F0 w (mapR k enc b M :: L)) (hk : Keyed Tryz.prog k) (ht : Tryz.prog.underlying t = some (.map k e)) (hn : M.length < maxLen) {key : Value} {x : Bs} (hx : keyOf Tryz.prog k key = some (.string x)) (v : V) :
    ∃ w2, (Instr.mapUpdate t (.map (some b)) key (enc v)).run Tryz.prog w = .ok () w2 ∧ Sp w0 F0 w2 (mapR k enc b (M.put x v) :: L) ∧ w2.heap.size = w.heap.size := by
  obtain ⟨w2, h1, h2, h3, h4⟩ := S.map.update hk ht hn hx v
  exact ⟨w2, h1, S.mapTo h2 h3, h4⟩
end
section
variable {w0 w w2 : World} {F0 : List Nat} {L : List Res} {T b p : Nat} {l s : Bs}
variable {D D2 : Dk}
theorem Sp.disk (S : Sp w0 F0 w (diskR p D :: L)) : ∃ F, Disk w p F D ∧ ∀ w2 D2, DiskTo F w p w2 D2 → Sp w0 F0 w2 (diskR p D2 :: L) := by
  obtain ⟨F, h, hk⟩ := S.take
  exact ⟨F, h, fun w2 D2 ⟨F2, h2, m⟩ => hk _ _ F2 h2 m⟩
theorem newS (S : Sp w0 F0 w L) : Calls Tryz.prog 14 #[] w fun r w2 => ∃ p, r = .returned (.pointer (some ⟨p, 0, none⟩)) ∧ Sp w0 F0 w2 (diskR p Dk.new :: L) :=
  (new_any w).mono fun _ _ ⟨p, _, he, h, hx, hn⟩ => ⟨p, he, S.gain hx h hn⟩
theorem syncS (S : Sp w0 F0 w (diskR p D :: L)) (hs : D.Small) : Calls Tryz.prog 49 #[.pointer (some ⟨p, 0, none⟩)] w fun r w2 => r = .returned (.int .i64 D.sync.2) ∧ Sp w0 F0 w2 (diskR p D.sync.1 :: L) := by
  obtain ⟨F, h, hk⟩ := S.disk
  exact (sync_any p F D w h hs).mono fun _ _ ⟨he, h2⟩ => ⟨he, hk _ _ h2⟩
theorem writeS (n d : Bs) (S : Sp w0 F0 w (diskR p D :: L)) (hs : D.Small) (hn : n.length < 1000000000000000000) (hd : d.length < 1000000000000000000) :
    Calls Tryz.prog 21 #[.pointer (some ⟨p, 0, none⟩), .string ⟨n.toArray⟩, .string ⟨d.toArray⟩] w fun r w2 => r = .returned (.int .i64 (D.write n d).2) ∧ Sp w0 F0 w2 (diskR p (D.write n d).1 :: L) := by
  obtain ⟨F, h, hk⟩ := S.disk
  exact (write_any p F D n d w h hs hn hd).mono fun _ _ ⟨he, h2⟩ => ⟨he, hk _ _ h2⟩
theorem readS (n : Bs) (S : Sp w0 F0 w (diskR p D :: L)) (hn : n.length ≤ maxLen) :
    Calls Tryz.prog 22 #[.pointer (some ⟨p, 0, none⟩), .string ⟨n.toArray⟩] w fun r w2 => r = .returned (.tuple #[.string ⟨((D.now.get n).getD []).toArray⟩, .int .i64 (if D.now.has n then 0 else 10)]) ∧ w = w2 := by
  obtain ⟨F, h, hk⟩ := S.disk
  exact read_any p F D n w h hn
theorem quotaS (n : Int) (S : Sp w0 F0 w (diskR p D :: L)) : Calls Tryz.prog 32 #[.pointer (some ⟨p, 0, none⟩), .int .i64 n] w fun r w2 => r = .returned (.tuple #[]) ∧ Sp w0 F0 w2 (diskR p { D with quota := max n 0 } :: L) := by
  obtain ⟨F, h, hk⟩ := S.disk
  exact (quota_any p F D n w h).mono fun _ _ ⟨he, h2, hx⟩ => ⟨he, hk _ _ ⟨F, h2, Moved.of_ext hx⟩⟩
theorem fuseS (n : Int) (S : Sp w0 F0 w (diskR p D :: L)) : Calls Tryz.prog 28 #[.pointer (some ⟨p, 0, none⟩), .int .i64 n] w fun r w2 => r = .returned (.tuple #[]) ∧ Sp w0 F0 w2 (diskR p (D.setFuse n) :: L) := by
  obtain ⟨F, h, hk⟩ := S.disk
  exact (fuse_any p F D n w h).mono fun _ _ ⟨he, h2, hx⟩ => ⟨he, hk _ _ ⟨F, h2, Moved.of_ext hx⟩⟩
theorem crashS (n : Int) (S : Sp w0 F0 w (diskR p D :: L)) (hf : D.CrashFit) : Calls Tryz.prog 30 #[.pointer (some ⟨p, 0, none⟩), .int .i64 n] w fun r w2 => r = .returned (.tuple #[]) ∧ Sp w0 F0 w2 (diskR p (D.crash n) :: L) := by
  obtain ⟨F, h, hk⟩ := S.disk
  exact (crash_any p F D n w h hf).mono fun _ _ ⟨he, h2⟩ => ⟨he, hk _ _ h2⟩
theorem deadS (S : Sp w0 F0 w (diskR p D :: L)) : Calls Tryz.prog 41 #[.pointer (some ⟨p, 0, none⟩)] w fun r w2 => r = .returned (.bool D.dead) ∧ w = w2 := by
  obtain ⟨F, h, hk⟩ := S.disk
  exact dead_any p F D w h
theorem traceS (S : Sp w0 F0 w (diskR p D :: L)) (hl : D.trace.length < 1000000000000) : Calls Tryz.prog 24 #[.pointer (some ⟨p, 0, none⟩)] w fun r w2 => ∃ a c, r = .returned (.slice a D.trace.length c) ∧ Sp w0 F0 w2 (diskR p D :: L) := by
  obtain ⟨F, h, hk⟩ := S.disk
  refine (trace_any p F D w h hl).mono fun _ _ ⟨v2, he, hv, hx, _⟩ => ?_
  rcases hv.2 with ⟨rfl, h0⟩ | ⟨g, cap, cur, rfl, _⟩
  · exact ⟨none, 0, by rw [he, h0], S.ext0 hx⟩
  · exact ⟨_, _, he, S.ext0 hx⟩
theorem removeS (n : Bs) (S : Sp w0 F0 w (diskR p D :: L)) (hs : D.Small) (hn : n.length < 1000000000000000000) :
    Calls Tryz.prog 60 #[.pointer (some ⟨p, 0, none⟩), .string ⟨n.toArray⟩] w fun r w2 => r = .returned (.int .i64 (D.remove n).2) ∧ Sp w0 F0 w2 (diskR p (D.remove n).1 :: L) := by
  obtain ⟨F, h, hk⟩ := S.disk
  exact (remove_any p F D n w h hs hn).mono fun _ _ ⟨he, h2⟩ => ⟨he, hk _ _ h2⟩
theorem renameS (n t : Bs) (S : Sp w0 F0 w (diskR p D :: L)) (hs : D.Small) (hn : n.length < 1000000000000000000) (ht : t.length < 1000000000000000000) :
    Calls Tryz.prog 50 #[.pointer (some ⟨p, 0, none⟩), .string ⟨n.toArray⟩, .string ⟨t.toArray⟩] w fun r w2 => r = .returned (.int .i64 (D.rename n t).2) ∧ Sp w0 F0 w2 (diskR p (D.rename n t).1 :: L) := by
  obtain ⟨F, h, hk⟩ := S.disk
  exact (rename_any p F D n t w h hs hn ht).mono fun _ _ ⟨he, h2⟩ => ⟨he, hk _ _ h2⟩
theorem pendingS (S : Sp w0 F0 w (diskR p D :: L)) : Calls Tryz.prog 20 #[.pointer (some ⟨p, 0, none⟩)] w fun r w2 => r = .returned (.int .i64 D.pend.length) ∧ w = w2 := by
  obtain ⟨F, h, hk⟩ := S.disk
  exact pending_any p F D w h
end
end Go.Proofs.YtcffickkipicbaaGreatDoor
