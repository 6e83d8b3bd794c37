/- Names of messages sorted: slices.SortFunc by compare. Conditions: names of messages. -/
import Derived.Test.YtcffickkipicbaaGreatDoorMd6
import Derived.Test.YtcffickkipicbaaGreatDoorSrt
import Derived.Shelf.SlSortCmp.NoneTotal
namespace Go.Proofs.YtcffickkipicbaaGreatDoor
open Go.RowKit Go.Sort Go.Maps Go.Shelf

def mdKey (s : Bs) : Nat × Nat := ((mdParse s).2.1, (mdParse s).2.2.1)
def mdLt (x y : Bs) : Bool := decide ((mdKey x).1 < (mdKey y).1 ∨ ((mdKey x).1 = (mdKey y).1 ∧ (mdKey x).2 < (mdKey y).2))
theorem mdCmp_lt (x y : Bs) : decide (mdCmp x y < 0) = mdLt x y := by
  unfold mdCmp mdLt mdKey
  generalize (mdParse x).2.1 = a
  generalize (mdParse y).2.1 = b
  generalize (mdParse x).2.2.1 = c
  generalize (mdParse y).2.2.1 = d
  rw [decide_eq_decide]
  dsimp only
  split
  · constructor
    · intro _; left; assumption
    · intro _; decide
  · split
    · constructor
      · intro h; exact absurd h (by decide)
      · intro h; omega
    · split
      · constructor
        · intro _; right; omega
        · intro _; decide
      · split
        · constructor
          · intro h; exact absurd h (by decide)
          · intro h; omega
        · constructor
          · intro h; exact absurd h (by decide)
          · intro h; omega
abbrev MdNm := {s : Bs // mdIs s = true}
instance : Inhabited MdNm := ⟨⟨nameB 0 1 0, mdIs_name (by decide)⟩⟩
def encNm (x : MdNm) : Value := encStr x.1
def cfNm (x y : MdNm) : Int := mdCmp x.1 y.1
theorem ltNm (x y : MdNm) : ltOf cfNm x y = mdLt x.1 y.1 := mdCmp_lt x.1 y.1
theorem swoNm : SWO (ltOf cfNm) where
  irrefl x := by rw [ltNm]; unfold mdLt; simp
  trans x y z h1 h2 := by
    rw [ltNm] at *
    unfold mdLt at *
    simp only [decide_eq_true_eq] at *
    omega
  ntrans x y z h1 h2 := by
    rw [ltNm] at *
    unfold mdLt at *
    simp only [decide_eq_false_iff_not] at *
    omega
def MdSorted (l l' : List Bs) : Prop := l'.Perm l ∧ l'.Pairwise fun x y => mdLt y x = false
theorem sort_ext {w : World} {g n : Nat} {dk : Array MdNm} {os : Array Obj} : Ext [g] w (sortWorld encNm w g 0 n dk os) := by
  refine ⟨rfl, rfl, rfl, by simp [sortWorld, Sort.ahead], fun k hk hn => ?_⟩
  unfold sortWorld
  rw [heap_grow_old _ _ (by simpa [Sort.ahead] using hk)]
  have hne : g ≠ k := fun e => hn (by simp [e])
  simp only [putRow, mapBlock, Array.getElem?_modify, if_neg hne]
  rfl
section
variable {w0 w : World} {L : List Res} {v : Value}
theorem sortMdS (l : List MdNm) (S : Sp w0 [] w (textsR v (l.map (·.1)) :: L)) (E : Env w0) (hl : l.length < 4611686018427387904) :
    Calls Tryz.prog 52 #[v, .func (.func 53) #[] #[]] w fun e w2 => e = .returned (.tuple #[]) ∧ ∃ l', MdSorted (l.map (·.1)) l' ∧ Sp w0 [] w2 (textsR v l' :: L) := by
  by_cases hv : v = .slice none 0 0
  · subst hv
    have h0 : l = [] := by
      rcases S.rowForm with ⟨_, h⟩ | ⟨g, cap, h⟩
      · exact List.eq_nil_of_length_eq_zero (by simpa using h)
      · cases h
    subst h0
    refine (AnyF.slices_SortFunc_none (P := Tryz.prog) (ρ := Tryz.sortMd_ren) { Tryz.sortMd with } none 0 _ w).mono ?_
    rintro e w2 ⟨rfl, rfl⟩
    exact ⟨rfl, [], ⟨List.Perm.refl _, List.Pairwise.nil⟩, S⟩
  obtain ⟨F, ⟨rfl, h⟩, hk⟩ := S.take
  have hen : (l.map (·.1)).map encStr = l.map encNm := by rw [List.map_map]; rfl
  rw [hen, List.length_map] at h
  obtain ⟨g, cap, rfl, _, hg, hn, hm, hz, hH⟩ := Lib.holds_of_ownsRow h hv
  have eg : ∀ args w, (callFunc 53 args).run Tryz.prog w = .ok (.enter 53 args) w := enters_of Tryz.func53 (by kernel_rfl) rfl
  have hg0 : w0.heap.size ≤ g := by
    obtain ⟨M, hM, hsp⟩ := S
    obtain ⟨a, M', rfl, ha, rfl⟩ := List.map_eq_cons_iff.1 hM
    obtain ⟨r, F⟩ := a
    dsimp only at ha
    subst ha
    have hF := (hsp.all _ (List.mem_cons_self ..)).1
    have := hsp.own _ (List.mem_cons_self ..) g (by rw [hF]; simp [Value.ownBlock])
    simpa using this
  have hcmp : CmpLays1 Tryz.prog 53 #[] encNm cfNm g 0 l.toArray.size w := fun m os dk _ x y => by
    have hx : Ext [] w0 (sortWorld encNm w g 0 m dk os) := S.ext.trans sort_ext (by simp; exact hg0)
    exact (mdCompare x.1 y.1 x.2 y.2 _ (E.ext hx)).mono fun e w2 ⟨he, q, os', hq⟩ => ⟨he, q, os', hq⟩
  refine (Any.slices_SortFunc Tryz.sortMd encNm (fun x => by simp [encNm, encStr_eq, Value.oneCell']) cfNm swoNm 53 #[] g 0 cap l.toArray w eg hcmp hH hg (by simpa using hl)).mono ?_
  rintro e w2 ⟨rfl, d', n, os, hp, hs, rfl⟩
  have hsz : d'.size = l.length := by simpa using hp.1
  refine ⟨rfl, d'.toList.map (·.1), ⟨?_, ?_⟩, ?_⟩
  · have h2 := hp.2.2
    rw [List.size_toArray] at h2
    rw [show d'.extract 0 l.length = d' by rw [← hsz]; simp] at h2
    simp only [List.extract_toArray, List.extract_eq_take_drop, Nat.sub_zero, List.drop_zero, List.take_length] at h2
    exact h2.map _
  · rw [List.pairwise_map, List.pairwise_iff_getElem]
    intro i j hi hj hij
    have := hs i j (by omega) hij (by simpa [hsz] using hj)
    rw [ltNm] at this
    simp only [Array.length_toList] at hi hj
    simpa [getElem!_pos, hi, hj] using this
  · have h3 := Lib.ownsRow_putRow (q := n) (ys := d'.toList) h (by simpa using hsz) (Nat.le_refl _)
    rw [List.take_of_length_le (by simp [hsz])] at h3
    have x1 : Ext [] (putRow encNm (Sort.ahead w n) g 0 d'.toList.toArray) (grow (putRow encNm (Sort.ahead w n) g 0 d'.toList.toArray) os) :=
      ⟨rfl, rfl, rfl, by simp, fun k hk _ => heap_grow_old _ _ hk⟩
    have h4 := row_ext h3 x1 (by simp)
    have hen2 : (d'.toList.map (·.1)).map encStr = d'.toList.map encNm := by rw [List.map_map]; rfl
    have e1 : (d'.toList.map (·.1)).length = l.length := by rw [List.length_map, Array.length_toList, hsz]
    refine hk _ (textsR (.slice (some ⟨g, 0, none⟩) l.length cap) (d'.toList.map (·.1))) [g] ⟨rfl, ?_⟩ (Moved.of_ext sort_ext)
    show World.ownsRow _ 0 9 1 _ (d'.toList.map (·.1)).length ((d'.toList.map (·.1)).map encStr)
    rw [hen2, e1]
    exact h4
end
end Go.Proofs.YtcffickkipicbaaGreatDoor
