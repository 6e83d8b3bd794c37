/- How a statement's arguments come: slices of structs of one-cell fields, slices of texts; what shuts a statement. No condition. addr, plainly: letters, labels, domains, local parts, mailboxes written. No program. addr, plainly: reading a path. No program. addr, plainly: what is written is read as itself; what is read may be written. No program. entry, plainly: entries, heads, bodies filled up, names; a head is read as its entry, and what is read is a head. No program. -/
import Derived.ChangeOld
import Derived.ChangeSame
import Derived.Deep.Fields
import Derived.Deep.Slices
import Derived.Lib.ItoaNum
import Derived.Lib.Split
import Derived.OpenShut
import Derived.ProofKit
import Derived.ShutString
import Derived.Test.YtangbdahnmomlaaGreatDoorBu00
import Derived.Test.YtangbdahnmomlaaGreatDoorBu01
import Derived.Test.YtangbdahnmomlaaGreatDoorRows
set_option linter.unnecessarySimpa false
set_option linter.unusedSimpArgs false
set_option linter.unusedVariables false
namespace Go.Proofs.YtangbdahnmomlaaGreatDoor
section
open Go.ChangeShapes Go.WideShapes Go.ChangeAt Go.RowKit Go.Deep
open Go.ChangeMaps (open_string shut_string)
theorem laidOut : laidOutB Tryz.prog = true:=by kernel_rfl
def RowsAt (w : World) (a : Option Addr) (k : Nat) (rows : List (List Value)) : Prop:=rows = [] ∨ ∃ b off,a = some ⟨b,off,none⟩ ∧ ∀ i r,rows[i]? = some r → ∀ j v,r[j]? = some v → w.cell? ⟨b,off + i * k + j,none⟩ = some v
theorem RowsAt.ext {w w2 : World} {a : Option Addr} {k : Nat} {rows : List (List Value)} (h : RowsAt w a k rows) (hx : Ext [] w w2) : RowsAt w2 a k rows:=by
  rcases h with h | ⟨b,off,h1,h2⟩
  · exact .inl h
  · exact .inr ⟨b,off,h1,fun i r hr j v hv => hx.cell (h2 i r hr j v hv) (by simp)⟩
theorem RowsAt.at {w : World} {b off k : Nat} {rows : List (List Value)} (h : RowsAt w (some ⟨b,off,none⟩) k rows) (i : Nat) (r : List Value) (hr : rows[i]? = some r) (j : Nat) (v : Value) (hv : r[j]? = some v) : w.cell? ⟨b,off + i * k + j,none⟩ = some v:=by
  rcases h with rfl | ⟨b',off',h1,h2⟩
  · cases hr
  · simp only [Option.some.injEq,Addr.mk.injEq,and_true] at h1
    obtain ⟨rfl,rfl⟩:=h1
    exact h2 i r hr j v hv
theorem RowsAt.addr {w : World} {a : Option Addr} {k : Nat} {rows : List (List Value)} (h : RowsAt w a k rows) {i : Nat} (hi : i < rows.length) : ∃ b off,a = some ⟨b,off,none⟩:=by
  rcases h with rfl | ⟨b,off,h1,_⟩
  · cases hi
  · exact ⟨b,off,h1⟩
section
variable {H : Type} {enc : TypeId × Value → H} {P : Program} {w : World} {base : Nat} {spare : Nat → Bool} {held : Bool}
theorem rows_all {α : Type} {a : Addr} {len k : Nat} (vals : α → List Value) (wf : α → Prop) (hvl : ∀ x,(vals x)[0]?.isSome = true) (d : α)
    (hx : ∀ i,i < len → ∃ y : α,wf y ∧ ∀ j u,(vals y)[j]? = some u → w.cell? (a.add (i * k + j)) = some u) (h0 : 0 < len) :
    ∃ l : List α,l.length = len ∧ (∀ i,(h : i < l.length) → wf l[i]) ∧ RowsAt w (some a) k (l.map vals):=by
  obtain ⟨b,off,sp⟩:=a
  have hsp : sp = none:=by
    obtain ⟨y,_,hc⟩:=hx 0 h0
    obtain ⟨u,hu⟩:=Option.isSome_iff_exists.1 (hvl y)
    have hc:=hc 0 u hu
    cases sp with
    | none => rfl
    | some z =>
      have : ((⟨b,off,some z⟩ : Addr).add (0 * k + 0)) = ⟨b,off,some z⟩:=by simp [Addr.add]
      rw [this] at hc
      simp [World.cell?] at hc
      split at hc <;> simp at hc
  subst hsp
  have add : ∀ z,(⟨b,off,none⟩ : Addr).add z = ⟨b,off + z,none⟩:=fun z => by unfold Addr.add; split <;> simp_all
  have : Inhabited α:=⟨d⟩
  obtain ⟨f,hfx⟩:=choose_lt hx
  refine ⟨(List.range len).map f,by simp,fun i hil => ?_,.inr ⟨b,off,rfl,fun i r hr j v hv => ?_⟩⟩
  · have hi' : i < len:=by simpa using hil
    simpa using (hfx i hi').1
  · simp only [List.getElem?_map,Option.map_eq_some_iff] at hr
    obtain ⟨x,⟨q,hq,rfl⟩,rfl⟩:=hr
    obtain ⟨hq1,hq2⟩:=List.getElem?_eq_some_iff.1 hq
    simp only [List.getElem_range] at hq2
    subst hq2
    have:=(hfx i (by simpa using hq1)).2 j v hv
    rw [add] at this
    rw [show off + i * k + j = off + (i * k + j) by omega]
    exact this
end
end
section
def letB (c : UInt8) : Bool:=(decide (97 ≤ c.toNat) && decide (c.toNat ≤ 122)) || (decide (65 ≤ c.toNat) && decide (c.toNat ≤ 90)) || (decide (48 ≤ c.toNat) && decide (c.toNat ≤ 57))
def labB (c : UInt8) : Bool:=letB c || c == 45
def shownB (c : UInt8) : Bool:=decide (32 ≤ c.toNat) && decide (c.toNat ≤ 126)
def allB (p : UInt8 → Bool) (s : Bs) : Bool:=s.all p && !s.isEmpty
def lowB (c : UInt8) : UInt8:=if 65 ≤ c.toNat ∧ c.toNat ≤ 90 then c + 32 else c
def smallB (s : Bs) : Bs:=s.map lowB
def labelB (s : Bs) : Bool:=decide (s.length ≤ 63) && (allB labB s && (!(s.head? == some 45) && !(s.getLast? == some 45)))
def dotsB (s : Bs) : List Bs:=Lib.split s [46]
def partsB (p : Bs → Bool) (s : Bs) : Bool:=(dotsB s).all p
def domOk (s : Bs) : Bool:=decide (s.length ≤ 255) && partsB labelB s
def domV (s : Bs) : Bs × Int:=if domOk s then (smallB s,0) else ([],2)
def localB (s : Bs) : Bool:=decide (s.length ≤ 64) && allB shownB s
abbrev Mb:=Bs × Bs
def mbMay (b : Mb) : Bool:=domOk b.2 && smallB b.2 == b.2 && localB b.1
def noBoxE (b : Mb) : Bool:=b.1 == [] && b.2 == []
end
section
end
section
def sepR (d : UInt8) : Bs → List Bs
  | [] => [[]]
  | c :: r => if c = d then [] :: sepR d r else ((c :: (sepR d r).headD []) :: (sepR d r).tail)
theorem sepR_ne (d : UInt8) : ∀ s : Bs,sepR d s ≠ []
  | [] => by simp [sepR]
  | c :: r => by unfold sepR; split <;> simp
theorem sepR_eta (d : UInt8) (s : Bs) : (sepR d s).headD [] :: (sepR d s).tail = sepR d s:=by
  cases h : sepR d s with
  | nil => exact absurd h (sepR_ne d s)
  | cons a b => rfl
theorem index_one_cons (c d : UInt8) (r : Bs) : Lib.index (c :: r) [d] = if c = d then 0 else if Lib.index r [d] == -1 then -1 else Lib.index r [d] + 1:=by
  conv => lhs; unfold Lib.index
  by_cases h : c = d
  · subst h; simp [List.isPrefixOf]
  · have : ([d].isPrefixOf (c :: r)) = false:=by simp [List.isPrefixOf]; exact fun e => h e.symm
    rw [this,if_neg h]
    simp
theorem split_sep (d : UInt8) : ∀ (n : Nat) (s : Bs),s.length ≤ n → Lib.split s [d] = sepR d s:=by
  intro n
  induction n with
  | zero =>
    intro s h
    obtain rfl:=List.eq_nil_of_length_eq_zero (Nat.le_zero.1 h)
    rfl
  | succ n ih =>
    intro s h
    cases s with
    | nil => rfl
    | cons c r =>
      have hr:=ih r (by simpa using h)
      have hi:=index_one_cons c d r
      by_cases hc : c = d
      · rw [if_pos hc] at hi
        have hcnt:=Lib.count_hit (s:=c :: r) (sub:=[d]) (i:=0) (by simp) hi
        unfold Lib.split
        rw [hcnt,Nat.add_comm]
        unfold Lib.splitK
        rw [hi,if_neg (by simp)]
        unfold sepR
        rw [if_pos hc,← hr]
        rfl
      · rw [if_neg hc] at hi
        unfold sepR
        rw [if_neg hc,← hr]
        by_cases hm : Lib.index r [d] = -1
        · rw [hm] at hi
          have h1 : Lib.index (c :: r) [d] = -1:=hi
          unfold Lib.split
          rw [Lib.count_miss h1,Lib.count_miss hm]
          rfl
        · have hge:=Lib.index_ge r [d]
          obtain ⟨k,hk⟩ : ∃ k : Nat,Lib.index r [d] = k:=⟨(Lib.index r [d]).toNat,by omega⟩
          have h1 : Lib.index (c :: r) [d] = ((k + 1 : Nat) : Int):=by
            rw [hi,if_neg (by simpa using hm),hk]; omega
          unfold Lib.split
          rw [Lib.count_hit (by simp) h1,Lib.count_hit (by simp) hk,Nat.add_comm 1,Nat.add_comm 1]
          have e1 : (c :: r).drop (k + 1 + [d].length) = r.drop (k + [d].length):=by
            rw [show k + 1 + [d].length = (k + [d].length) + 1 by simp,List.drop_succ_cons]
          rw [e1]
          conv => lhs; unfold Lib.splitK
          conv => rhs; unfold Lib.splitK
          rw [h1,hk,if_neg (by simp; omega),if_neg (by simp)]
          simp only [Int.toNat_natCast,Nat.add_zero,List.take_succ_cons,List.headD_cons,List.tail_cons,List.length_cons,List.length_nil,List.drop_succ_cons]
theorem dotsB_eq (s : Bs) : dotsB s = sepR 46 s:=split_sep 46 s.length s (Nat.le_refl _)
end
section
abbrev Rcp:=Mb × Int
structure En where
  id : Nat
  dom : Bs
  ep : Nat
  cnt : Nat
  frm : Mb
  rcs : List Rcp
  born : Nat
  nxt : Nat
  tries : Int
def En.zero : En:=⟨0,[],0,0,([],[]),[],0,0,0⟩
structure En.Fit (e : En) : Prop where
  id : e.id < 18446744073709551616
  ep : e.ep < 18446744073709551616
  cnt : e.cnt < 18446744073709551616
  born : e.born < 18446744073709551616
  nxt : e.nxt < 18446744073709551616
  tries : -9223372036854775808 ≤ e.tries ∧ e.tries ≤ 9223372036854775807
  dom : e.dom.length ≤ 1000000
  frm : e.frm.1.length ≤ 1000000 ∧ e.frm.2.length ≤ 1000000
  rcs : e.rcs.length ≤ 1000
  each : ∀ x ∈ e.rcs,x.1.1.length ≤ 1000000 ∧ x.1.2.length ≤ 1000000 ∧ -9223372036854775808 ≤ x.2 ∧ x.2 ≤ 9223372036854775807
def rcMay (x : Rcp) : Bool:=mbMay x.1 && decide (0 ≤ x.2) && decide (x.2 ≤ 2)
def rcsMay (l : List Rcp) : Bool:=decide (1 ≤ l.length) && decide (l.length ≤ 10) && l.all rcMay
def domMay (d : Bs) : Bool:=domOk d && smallB d == d
def numsMay (e : En) : Bool:=decide (1 ≤ e.id) && decide (1 ≤ e.ep) && decide (e.id ≤ 1099511627776) && decide (e.ep ≤ 1099511627776) && decide (e.cnt ≤ 1099511627776) && decide (e.born ≤ 1099511627776) && decide (e.nxt ≤ 1099511627776) && decide (0 ≤ e.tries) && decide (e.tries ≤ 100)
def enMay (e : En) : Bool:=domMay e.dom && numsMay e && (noBoxE e.frm || mbMay e.frm) && rcsMay e.rcs
def rcB (x : Rcp) : Bs:=textB x.1.1 ++ textB x.1.2 ++ numB x.2.toNat
def headB (e : En) : Bs:=numB e.id ++ textB e.dom ++ numB e.ep ++ numB e.cnt ++ textB e.frm.1 ++ textB e.frm.2 ++ numB e.rcs.length ++ e.rcs.flatMap rcB ++ numB e.born ++ numB e.nxt ++ numB e.tries.toNat
def enHead (e : En) : Bs × Int:=if enMay e then (headB e,0) else ([],2)
def rdMb (m : Nat) (r : Rd) : Mb × Rd:=(((r.text m).1,((r.text m).2.text m).1),((r.text m).2.text m).2)
def rdRc (m : Nat) (r : Rd) : Rcp × Rd:=(((rdMb m r).1,((rdMb m r).2.num 2).1),((rdMb m r).2.num 2).2)
def rdRcs (m : Nat) : Nat → Rd → List Rcp × Rd
  | 0,r => ([],r)
  | n + 1,r => ((rdRc m r).1 :: (rdRcs m n (rdRc m r).2).1,(rdRcs m n (rdRc m r).2).2)
def rdEn (m : Nat) (r : Rd) : En × Rd :=
  let a:=r.num 1099511627776
  let b:=a.2.text m
  let c:=b.2.num 1099511627776
  let d:=c.2.num 1099511627776
  let f:=rdMb m d.2
  let n:=f.2.num 10
  let l:=rdRcs m n.1 n.2
  let g:=l.2.num 1099511627776
  let h:=g.2.num 1099511627776
  let t:=h.2.num 100
  (⟨a.1,b.1,c.1,d.1,f.1,l.1,g.1,h.1,t.1⟩,t.2)
def enRead (m : Nat) (s : Bs) : En × Int:=if (rdEn m ⟨s,false⟩).2.done = 0 ∧ enMay (rdEn m ⟨s,false⟩).1 = true then ((rdEn m ⟨s,false⟩).1,0) else (En.zero,2)
def zeros (n : Nat) : Bs:=List.replicate n 0
def bucket (n : Nat) : Nat:=if n ≤ 256 then 256 else if n ≤ 1024 then 1024 else if n ≤ 4096 then 4096 else 16384
def fillB (b : Bs) : Bs:=textB b ++ zeros (bucket (textB b).length - (textB b).length)
def enFill (b : Bs) : Bs × Int:=if b.length ≤ 16000 then (fillB b,0) else ([],5)
def bodyOf (s : Bs) : Bs:=(Rd.text ⟨s,false⟩ 16000).1
def enUnfill (s : Bs) : Bs × Int:=if fillB (bodyOf s) = s then (bodyOf s,0) else ([],2)
def enName (e : En) : Bs:=[113,47] ++ Lib.decDigits e.id ++ [46] ++ Lib.decDigits e.ep ++ [46] ++ Lib.decDigits e.cnt
def enSame (a b : En) : Bool:=decide (a.id = b.id ∧ a.dom = b.dom ∧ a.ep = b.ep ∧ a.cnt = b.cnt ∧ a.frm = b.frm ∧ a.rcs = b.rcs ∧ a.born = b.born ∧ a.nxt = b.nxt ∧ a.tries = b.tries)
theorem len_lt {s : Bs} {m : Nat} (h : s.length ≤ m) (hm : m ≤ 1000000) : s.length < 18446744073709551616:=by omega
theorem rdMb_back (b : Mb) (m : Nat) (rest : Bs) (h1 : b.1.length ≤ m) (h2 : b.2.length ≤ m) (hm : m ≤ 1000000) : rdMb m ⟨textB b.1 ++ (textB b.2 ++ rest),false⟩ = (b,⟨rest,false⟩):=by
  unfold rdMb
  rw [text_back b.1 m _ (len_lt h1 hm) h1,text_back b.2 m _ (len_lt h2 hm) h2]
theorem rdRc_back (x : Rcp) (m : Nat) (rest : Bs) (h1 : x.1.1.length ≤ m) (h2 : x.1.2.length ≤ m) (hm : m ≤ 1000000) (h3 : 0 ≤ x.2) (h4 : x.2 ≤ 2) : rdRc m ⟨rcB x ++ rest,false⟩ = (x,⟨rest,false⟩):=by
  unfold rdRc rcB
  have e : textB x.1.1 ++ textB x.1.2 ++ numB x.2.toNat ++ rest = textB x.1.1 ++ (textB x.1.2 ++ (numB x.2.toNat ++ rest)):=by simp
  rw [e,rdMb_back x.1 m _ h1 h2 hm,num_back x.2.toNat 2 rest (by omega) (by omega)]
  obtain ⟨b,z⟩:=x
  dsimp only at *
  rw [Int.toNat_of_nonneg h3]
theorem rdRcs_back (m : Nat) (hm : m ≤ 1000000) (rest : Bs) : ∀ l : List Rcp,(∀ x ∈ l,x.1.1.length ≤ m ∧ x.1.2.length ≤ m ∧ 0 ≤ x.2 ∧ x.2 ≤ 2) → rdRcs m l.length ⟨l.flatMap rcB ++ rest,false⟩ = (l,⟨rest,false⟩)
  | [],_ => rfl
  | x :: l,h => by
    obtain ⟨h1,h2,h3,h4⟩:=h x (by simp)
    rw [List.length_cons,List.flatMap_cons,List.append_assoc,rdRcs,rdRc_back x m _ h1 h2 hm h3 h4,rdRcs_back m hm rest l (fun y hy => h y (by simp [hy]))]
theorem domMay_len {d : Bs} (h : domMay d = true) : d.length ≤ 255:=by
  unfold domMay domOk at h
  simp only [Bool.and_eq_true,decide_eq_true_eq] at h
  exact h.1.1
theorem mbMay_len {b : Mb} (h : mbMay b = true) : b.1.length ≤ 64 ∧ b.2.length ≤ 255:=by
  unfold mbMay domOk localB at h
  simp only [Bool.and_eq_true,decide_eq_true_eq] at h
  exact ⟨h.2.1,h.1.1.1⟩
theorem rcMay_parts {x : Rcp} (h : rcMay x = true) : x.1.1.length ≤ 64 ∧ x.1.2.length ≤ 255 ∧ 0 ≤ x.2 ∧ x.2 ≤ 2:=by
  unfold rcMay at h
  simp only [Bool.and_eq_true,decide_eq_true_eq] at h
  exact ⟨(mbMay_len h.1.1).1,(mbMay_len h.1.1).2,h.1.2,h.2⟩
theorem frm_len {b : Mb} (h : (noBoxE b || mbMay b) = true) : b.1.length ≤ 64 ∧ b.2.length ≤ 255:=by
  rw [Bool.or_eq_true] at h
  rcases h with h | h
  · unfold noBoxE at h
    simp only [Bool.and_eq_true,beq_iff_eq] at h
    simp [h.1,h.2]
  · exact mbMay_len h
structure En.Parts (e : En) : Prop where
  dom : e.dom.length ≤ 255
  frm : e.frm.1.length ≤ 64 ∧ e.frm.2.length ≤ 255
  rcs : 1 ≤ e.rcs.length ∧ e.rcs.length ≤ 10
  each : ∀ x ∈ e.rcs,x.1.1.length ≤ 64 ∧ x.1.2.length ≤ 255 ∧ 0 ≤ x.2 ∧ x.2 ≤ 2
  id : 1 ≤ e.id ∧ e.id ≤ 1099511627776
  ep : 1 ≤ e.ep ∧ e.ep ≤ 1099511627776
  cnt : e.cnt ≤ 1099511627776
  born : e.born ≤ 1099511627776
  nxt : e.nxt ≤ 1099511627776
  tries : 0 ≤ e.tries ∧ e.tries ≤ 100
theorem enMay_parts {e : En} (h : enMay e = true) : e.Parts:=by
  unfold enMay numsMay rcsMay at h
  simp only [Bool.and_eq_true,decide_eq_true_eq,List.all_eq_true] at h
  obtain ⟨⟨⟨h1,h2⟩,h3⟩,⟨h4,h5⟩,h6⟩:=h
  obtain ⟨⟨⟨⟨⟨⟨⟨⟨a1,a2⟩,a3⟩,a4⟩,a5⟩,a6⟩,a7⟩,a8⟩,a9⟩:=h2
  exact ⟨domMay_len h1,frm_len h3,⟨h4,h5⟩,fun x hx => rcMay_parts (h6 x hx),⟨a1,a3⟩,⟨a2,a4⟩,a5,a6,a7,⟨a8,a9⟩⟩
theorem headB_eq (e : En) (rest : Bs) : headB e ++ rest = numB e.id ++ (textB e.dom ++ (numB e.ep ++ (numB e.cnt ++ (textB e.frm.1 ++ (textB e.frm.2 ++ (numB e.rcs.length ++ (e.rcs.flatMap rcB ++ (numB e.born ++ (numB e.nxt ++ (numB e.tries.toNat ++ rest)))))))))):=by
  unfold headB
  simp only [List.append_assoc]
theorem rdEn_back (e : En) (h : e.Parts) (m : Nat) (h0 : 255 ≤ m) (hm : m ≤ 1000000) (rest : Bs) : rdEn m ⟨headB e ++ rest,false⟩ = (e,⟨rest,false⟩):=by
  obtain ⟨h1,⟨h2,h3⟩,⟨_,h4⟩,h5,⟨_,h6⟩,⟨_,h7⟩,h8,h9,h10,h11,h12⟩:=h
  rw [headB_eq]
  unfold rdEn
  dsimp only
  rw [num_back e.id _ _ (by omega) h6]
  dsimp only
  rw [text_back e.dom m _ (len_lt (by omega) hm) (by omega)]
  dsimp only
  rw [num_back e.ep _ _ (by omega) h7]
  dsimp only
  rw [num_back e.cnt _ _ (by omega) h8]
  dsimp only
  rw [rdMb_back e.frm m _ (by omega) (by omega) hm]
  dsimp only
  rw [num_back e.rcs.length _ _ (by omega) h4]
  dsimp only
  rw [rdRcs_back m hm _ e.rcs (fun x hx => by obtain ⟨a,b,c,d⟩:=h5 x hx; exact ⟨by omega,by omega,c,d⟩)]
  dsimp only
  rw [num_back e.born _ _ (by omega) h9]
  dsimp only
  rw [num_back e.nxt _ _ (by omega) h10]
  dsimp only
  rw [num_back e.tries.toNat _ _ (by omega) (by omega)]
  dsimp only
  rw [Int.toNat_of_nonneg h11]
theorem rdMb_ok {m : Nat} {r : Rd} (h : (rdMb m r).2.bad = false) : r.bad = false ∧ r.s = textB (rdMb m r).1.1 ++ (textB (rdMb m r).1.2 ++ (rdMb m r).2.s):=by
  unfold rdMb at h ⊢
  obtain ⟨h1,h2⟩:=text_ok h
  obtain ⟨h3,h4⟩:=text_ok h1
  exact ⟨h3,by rw [← h2]; exact h4⟩
theorem rdRc_ok {m : Nat} {r : Rd} (h : (rdRc m r).2.bad = false) : r.bad = false ∧ r.s = rcB (rdRc m r).1 ++ (rdRc m r).2.s:=by
  unfold rdRc at h ⊢
  obtain ⟨h1,h2⟩:=num_ok h
  obtain ⟨h3,h4⟩:=rdMb_ok h1
  refine ⟨h3,?_⟩
  unfold rcB
  rw [h4]
  dsimp only
  rw [h2,Int.toNat_natCast]
  simp
theorem rdRcs_ok {m : Nat} : ∀ (n : Nat) (r : Rd),(rdRcs m n r).2.bad = false → r.bad = false ∧ r.s = (rdRcs m n r).1.flatMap rcB ++ (rdRcs m n r).2.s
  | 0,r,h => ⟨h,rfl⟩
  | n + 1,r,h => by
    rw [rdRcs] at h ⊢
    obtain ⟨h1,h2⟩:=rdRcs_ok n _ h
    obtain ⟨h3,h4⟩:=rdRc_ok h1
    refine ⟨h3,?_⟩
    dsimp only
    rw [List.flatMap_cons,h4,h2]
    simp
theorem rdRcs_length {m : Nat} : ∀ (n : Nat) (r : Rd),(rdRcs m n r).1.length = n
  | 0,r => rfl
  | n + 1,r => by rw [rdRcs,List.length_cons,rdRcs_length n]
theorem rdEn_ok {m : Nat} {r : Rd} (h : (rdEn m r).2.bad = false) : r.bad = false ∧ r.s = headB (rdEn m r).1 ++ (rdEn m r).2.s:=by
  rw [headB_eq]
  unfold rdEn at h ⊢
  dsimp only at h ⊢
  obtain ⟨a1,b1⟩:=num_ok h
  obtain ⟨a2,b2⟩:=num_ok a1
  obtain ⟨a3,b3⟩:=num_ok a2
  obtain ⟨a4,b4⟩:=rdRcs_ok _ _ a3
  obtain ⟨a5,b5⟩:=num_ok a4
  obtain ⟨a6,b6⟩:=rdMb_ok a5
  obtain ⟨a7,b7⟩:=num_ok a6
  obtain ⟨a8,b8⟩:=num_ok a7
  obtain ⟨a9,b9⟩:=text_ok a8
  obtain ⟨a10,b10⟩:=num_ok a9
  refine ⟨a10,?_⟩
  rw [Int.toNat_natCast,rdRcs_length,← b1,← b2,← b3,← b4,← b5,← b6,← b7,← b8,← b9]
  exact b10
theorem done_zero {r : Rd} (h : r.done = 0) : r.bad = false ∧ r.s = []:=by
  obtain ⟨s,b⟩:=r
  cases b <;> cases s <;> simp_all [Rd.done]
theorem done_nil : Rd.done ⟨[],false⟩ = 0:=rfl
theorem enRead_iff (m : Nat) (h0 : 255 ≤ m) (hm : m ≤ 1000000) (s : Bs) (e : En) : ((rdEn m ⟨s,false⟩).2.done = 0 ∧ enMay (rdEn m ⟨s,false⟩).1 = true ∧ (rdEn m ⟨s,false⟩).1 = e) ↔ (enMay e = true ∧ s = headB e):=by
  constructor
  · rintro ⟨h1,h2,rfl⟩
    obtain ⟨h3,h4⟩:=done_zero h1
    obtain ⟨_,h5⟩:=rdEn_ok h3
    rw [h4,List.append_nil] at h5
    exact ⟨h2,h5⟩
  · rintro ⟨h1,rfl⟩
    have:=rdEn_back e (enMay_parts h1) m h0 hm []
    rw [List.append_nil] at this
    rw [this]
    exact ⟨done_nil,h1,rfl⟩
theorem enRead_head (m : Nat) (h0 : 255 ≤ m) (hm : m ≤ 1000000) (e : En) (h : enMay e = true) : enRead m (headB e) = (e,0):=by
  obtain ⟨h1,h2,h3⟩:=(enRead_iff m h0 hm (headB e) e).2 ⟨h,rfl⟩
  unfold enRead
  rw [if_pos ⟨h1,h2⟩,h3]
theorem rdRcs_fit {m : Nat} : ∀ (n : Nat) (r : Rd),∀ x ∈ (rdRcs m n r).1,x.1.1.length ≤ m ∧ x.1.2.length ≤ m ∧ 0 ≤ x.2 ∧ x.2 ≤ 2
  | 0,r => by simp [rdRcs]
  | n + 1,r => by
    intro x hx
    rw [rdRcs] at hx
    rcases List.mem_cons.1 hx with rfl | hx
    · unfold rdRc rdMb
      dsimp only
      have h1:=num_le ((r.text m).2.text m).2 2
      exact ⟨text_fst_le ..,text_fst_le ..,by omega,by omega⟩
    · exact rdRcs_fit n _ x hx
theorem rdEn_fit (m : Nat) (hm : m ≤ 1000000) (r : Rd) : (rdEn m r).1.Fit:=by
  unfold rdEn rdMb
  dsimp only
  have l1 : ∀ (r : Rd),(r.text m).1.length ≤ 1000000:=fun r => Nat.le_trans (text_fst_le r m) hm
  refine ⟨num_lt ..,num_lt ..,num_lt ..,num_lt ..,num_lt ..,?_,l1 _,⟨l1 _,l1 _⟩,?_,?_⟩
  · exact ⟨Int.le_trans (by decide) (Int.natCast_nonneg _),Int.le_trans (Int.ofNat_le.2 (num_le _ 100)) (by decide)⟩
  · dsimp only
    rw [rdRcs_length]
    exact Nat.le_trans (num_le ..) (by decide)
  · intro x hx
    obtain ⟨a,b,c,d⟩:=rdRcs_fit _ _ x hx
    exact ⟨by omega,by omega,by omega,by omega⟩
theorem need_small {n : Nat} (h : n ≤ 16000) : need n ≤ 2:=need_le_of (by omega)
theorem text_small {b : Bs} (h : b.length ≤ 16000) : (textB b).length ≤ 16003:=by rw [textB_length]; have:=need_small h; omega
theorem text_pos (b : Bs) : 1 ≤ (textB b).length:=by rw [textB_length]; omega
theorem bucket_ge {n : Nat} (h : n ≤ 16384) : n ≤ bucket n:=by
  unfold bucket
  split
  · omega
  · split
    · omega
    · split <;> omega
theorem bucket_le (n : Nat) : bucket n ≤ 16384:=by
  unfold bucket
  split
  · omega
  · split
    · omega
    · split <;> omega
theorem fillB_length {b : Bs} (h : b.length ≤ 16000) : (fillB b).length = bucket (textB b).length:=by
  unfold fillB zeros
  have:=bucket_ge (n:=(textB b).length) (by have:=text_small h; omega)
  rw [List.length_append,List.length_replicate]
  omega
theorem text_fill {b : Bs} (h : b.length ≤ 16000) : Rd.text ⟨fillB b,false⟩ 16000 = (b,⟨zeros (bucket (textB b).length - (textB b).length),false⟩):=text_back b 16000 _ (by omega) h
theorem bodyOf_fill {b : Bs} (h : b.length ≤ 16000) : bodyOf (fillB b) = b:=by unfold bodyOf; rw [text_fill h]
theorem bodyOf_len (s : Bs) : (bodyOf s).length ≤ 16000:=text_fst_le _ _
theorem unfill_fill {b : Bs} (h : b.length ≤ 16000) : enUnfill (fillB b) = (b,0):=by
  unfold enUnfill
  rw [bodyOf_fill h,if_pos rfl]
end
end Go.Proofs.YtangbdahnmomlaaGreatDoor
