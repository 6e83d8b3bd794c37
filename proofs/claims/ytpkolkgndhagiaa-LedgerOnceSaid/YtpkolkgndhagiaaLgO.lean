/- ledger, plainly: no nonce of a key is told twice, whatever dies, crashes and is opened anew. No program. -/
import Derived.Test.YtpkolkgndhagiaaLgP
namespace Go.Proofs.Ytpkolkgndhagiaa
open Go.RowKit Go.Maps

def ceilOf (l : List LRow) (k : Bs) : Nat := (lgOf (ledPuts l) k).ceil
theorem ceilOf_snoc (l : List LRow) (x : LRow) (k : Bs) : ceilOf (l ++ [x]) k = if x.key = k then x.ceil else ceilOf l k := by
  unfold ceilOf
  rw [lgOf_puts]
  split <;> rfl
theorem lgOf_rows (l : List LRow) (k : Bs) : (lgOf (ledPuts l) k).c = ceilOf l k := ledPuts_same l k
/-- What was told (T: key and number), the sure rows l, the pending ones t. -/
structure OInv (b step most : Nat) (D : Dk) (M : Mp Cnt) (l t : List LRow) (T : List (Bs × Nat)) : Prop where
  ld : LD D l t
  cnt : ∀ k, (lgOf M k).c ≤ (lgOf M k).ceil ∧ ceilOf l k ≤ (lgOf M k).ceil
  same : ∀ k, (lgOf M k).ceil = ceilOf l k ∨ ((lgOf M k).c = (lgOf M k).ceil ∧ D.dead = true)
  pend : t = [] ∨ ∃ x c, t = [⟨x, c⟩] ∧ ceilOf l x ≤ c
  told : ∀ p ∈ T, p.1.length ≤ 300 ∧ p.2 < 1099511627776 ∧ p.2 < ceilOf l p.1 ∧ p.2 < (lgOf M p.1).c
  ok : ledOk M
  len : M.length ≤ b
  trace : D.trace.length ≤ 10 + 2 * b
  rows : (l ++ t).length ≤ b
section
variable {b step most : Nat} {D : Dk} {M : Mp Cnt} {l t : List LRow} {T : List (Bs × Nat)}
theorem OInv.roomy (h : OInv b step most D M l t T) (hb : b ≤ 1000) : D.Roomy 1000000 := h.ld.roomy (by have := h.trace; omega) (by have := h.rows; omega)
theorem OInv.more (h : OInv b step most D M l t T) : OInv (b + 1) step most D M l t T :=
  ⟨h.ld, h.cnt, h.same, h.pend, h.told, h.ok, by have := h.len; omega, by have := h.trace; omega, by have := h.rows; omega⟩
theorem ofuse_dead (D : Dk) (n : Int) : (D.setFuse n).dead = D.dead := by unfold Dk.setFuse; split <;> rfl
theorem ofuse_trace (D : Dk) (n : Int) : (D.setFuse n).trace = D.trace := by unfold Dk.setFuse; split <;> rfl
theorem OInv.fuse (h : OInv b step most D M l t T) (n : Int) (hn : n ≤ 9223372036854775807) : OInv (b + 1) step most (D.setFuse n) M l t T := by
  have h := h.more
  exact ⟨⟨h.ld.fd.setFuse n hn, h.ld.ok⟩, h.cnt, by rw [ofuse_dead]; exact h.same, h.pend, h.told, h.ok, h.len, by rw [ofuse_trace]; exact h.trace, h.rows⟩
theorem OInv.quota (h : OInv b step most D M l t T) (q : Int) : OInv (b + 1) step most { D with quota := q } M l t T := by
  have h := h.more
  exact ⟨⟨h.ld.fd.quota q, h.ld.ok⟩, h.cnt, h.same, h.pend, h.told, h.ok, h.len, h.trace, h.rows⟩
theorem ledPuts_ok {l : List LRow} (h : ∀ x ∈ l, lrowOk x) (hl : l.length ≤ 1000000) : ledOk (ledPuts l) := by
  have : ∀ (r : List LRow), (∀ x ∈ r, lrowOk x) → ∀ M : Mp Cnt, (∀ p ∈ M, p.2.c ≤ p.2.ceil ∧ p.2.ceil ≤ 1099511627776) → ∀ p ∈ r.foldl (fun M p => M.put p.key ⟨p.ceil, p.ceil⟩) M, p.2.c ≤ p.2.ceil ∧ p.2.ceil ≤ 1099511627776 := by
    intro r
    induction r with
    | nil => intro _ M hM; exact hM
    | cons x r ih =>
      intro hr M hM
      refine ih (fun y hy => hr y (by simp [hy])) _ (fun p hp => ?_)
      rcases Mp.mem_put.1 hp with rfl | ⟨hp, _⟩
      · exact ⟨Nat.le_refl _, (hr x (by simp)).2⟩
      · exact hM p hp
  exact ⟨by have := ledPuts_length l; omega, this l h [] (by simp)⟩
/-- .. opened anew, where it stands. -/
theorem OInv.open (h : OInv b step most D M l t T) (hb : b ≤ 1000) : ledOpen D = (D, some (ledPuts (l ++ t)), 0) ∧ OInv b step most D (ledPuts (l ++ t)) l t T := by
  have hge : ∀ k, ceilOf l k ≤ ceilOf (l ++ t) k := fun k => by
    rcases h.pend with rfl | ⟨x, c, rfl, hc⟩
    · rw [List.append_nil]; exact Nat.le_refl _
    · rw [ceilOf_snoc]
      split
      · rename_i e
        simp only at e
        subst e
        exact hc
      · exact Nat.le_refl _
  refine ⟨h.ld.open, h.ld, fun k => ⟨by rw [lgOf_rows]; exact Nat.le_refl _, hge k⟩, fun k => ?_, h.pend, fun p hp => ?_, ledPuts_ok h.ld.ok (by have := h.rows; omega), ?_, h.trace, h.rows⟩
  · cases t with
    | nil => left; rw [List.append_nil]; rfl
    | cons a r => exact .inr ⟨lgOf_rows _ _, h.ld.fd.dead (by simp)⟩
  · have := h.told p hp
    have := hge p.1
    rw [lgOf_rows]
    omega
  · have := ledPuts_length (l ++ t)
    have := h.rows
    omega
/-- .. and behind a crash. -/
theorem OInv.crash (h : OInv b step most D M l t T) (n : Int) (hb : b ≤ 1000) : ∃ l2, ledOpen (D.crash n) = (D.crash n, some (ledPuts l2), 0) ∧ OInv (b + 1) step most (D.crash n) (ledPuts l2) l2 [] T := by
  have hr := h.rows
  have hlen : (l ++ t.take n.toNat).length ≤ b := by
    rw [List.length_append] at hr ⊢
    have := List.length_take_le n.toNat t
    rw [List.length_take]
    omega
  have hge : ∀ k, ceilOf l k ≤ ceilOf (l ++ t.take n.toNat) k := fun k => by
    rcases h.pend with rfl | ⟨x, c, rfl, hc⟩
    · rw [List.take_nil, List.append_nil]; exact Nat.le_refl _
    · cases hn : n.toNat with
      | zero => rw [List.take_zero, List.append_nil]; exact Nat.le_refl _
      | succ m =>
        rw [List.take_succ_cons, List.take_nil, ceilOf_snoc]
        split
        · rename_i e
          simp only at e
          subst e
          exact hc
        · exact Nat.le_refl _
  have hld := h.ld.crash n
  have ho := hld.open
  rw [List.append_nil] at ho
  have hok := ledPuts_ok (fun x hx => hld.ok x (by simpa using hx)) (l := l ++ t.take n.toNat) (by omega)
  refine ⟨l ++ t.take n.toNat, ho, hld, fun k => ⟨by rw [lgOf_rows]; exact Nat.le_refl _, Nat.le_refl _⟩, fun k => .inl rfl, .inl rfl, fun p hp => ?_, hok, ?_, ?_, by simpa using Nat.le_succ_of_le hlen⟩
  · have := h.told p hp
    have := hge p.1
    rw [lgOf_rows]
    omega
  · have := ledPuts_length (l ++ t.take n.toNat)
    omega
  · have := h.trace
    simp only [Dk.crash]
    omega
/-- What asking for a nonce leads to: nothing is told, or a number that was not told of that key. -/
theorem OInv.next (h : OInv b step most D M l t T) (x : Bs) (hb : b ≤ 1000) (hs : 1 ≤ step) (hm : most ≤ 1099511627776) :
    ((ledNextN D M step most x).2.2.2 ≠ 0 ∧ (ledNextN D M step most x).2.2.1 = [] ∧ ∃ t2, OInv (b + 1) step most (ledNextN D M step most x).1 (ledNextN D M step most x).2.1 l t2 T) ∨
    ((ledNextN D M step most x).2.2.2 = 0 ∧ ∃ c l2 t2, (ledNextN D M step most x).2.2.1 = nonceB c ∧ c < 1099511627776 ∧ (∀ p ∈ T, p.1 = x → p.2 ≠ c) ∧ x.length ≤ 300 ∧ OInv (b + 1) step most (ledNextN D M step most x).1 (ledNextN D M step most x).2.1 l2 t2 (T ++ [(x, c)])) := by
  have hstay := h.more
  have hc := h.cnt x
  have hok := h.ok.of x
  have hsame := h.same x
  have htold := h.told
  have hlen := h.len
  unfold ledNextN
  split
  · exact .inl ⟨by simp, rfl, t, hstay⟩
  · rename_i h300
    split
    · exact .inl ⟨by simp, rfl, t, hstay⟩
    · rename_i hsp
      split
      · rename_i heq
        have hcl : min ((lgOf M x).ceil + step) most ≤ 1099511627776 := by omega
        have hrow : lrowOk ⟨x, min ((lgOf M x).ceil + step) most⟩ := ⟨by simp only; omega, hcl⟩
        rw [reserve_eq]
        cases hd : D.dead with
        | true =>
          obtain ⟨e1, e2⟩ := addSync_dead (nm := ledB) (row := LRow.text ⟨x, min ((lgOf M x).ceil + step) most⟩) hd
          rw [if_pos e2, e1]
          exact .inl ⟨e2, rfl, t, hstay⟩
        | false =>
          have ht0 : t = [] := by
            cases t with
            | nil => rfl
            | cons a r => have := h.ld.fd.dead (by simp); rw [hd] at this; cases this
          subst ht0
          have hsm : ∀ k, (lgOf M k).ceil = ceilOf l k := fun k => (h.same k).resolve_right (fun hh => by rw [hd] at hh; cases hh.2)
          have hsx := hsm x
          have hok2 : ∀ y ∈ l ++ [(⟨x, min ((lgOf M x).ceil + step) most⟩ : LRow)], lrowOk y := fun y hy => by
            rcases List.mem_append.1 hy with hy | hy
            · exact h.ld.ok y (by simpa using hy)
            · simp only [List.mem_singleton] at hy
              subst hy
              exact hrow
          have hfd : FD ledB D (l.map LRow.text) [] := h.ld.fd
          have htr := h.trace
          have hrw := h.rows
          rcases hfd.add (LRow.text ⟨x, min ((lgOf M x).ceil + step) most⟩) with ⟨e1, _⟩ | ⟨e1, e2, _, e4, _, e5⟩ | ⟨e1, e2, _, e4, e5, e6, _, e8⟩
          · rw [e1, if_pos (by simp)]
            exact .inl ⟨by simp, rfl, [], hstay⟩
          · generalize addSync D ledB (LRow.text ⟨x, min ((lgOf M x).ceil + step) most⟩) = A at *
            obtain ⟨D2, ec⟩ := A
            dsimp only at *
            subst e1
            rw [if_pos (by simp)]
            refine .inl ⟨by simp, rfl, ?_⟩
            rcases e5 with e5 | e5
            · exact ⟨[], ⟨e5, h.ld.ok⟩, h.cnt, fun k => .inl (hsm k), .inl rfl, htold, h.ok, hstay.len, by simp only; omega, hstay.rows⟩
            · exact ⟨[⟨x, min ((lgOf M x).ceil + step) most⟩], ⟨e5, hok2⟩, h.cnt, fun k => .inl (hsm k), .inr ⟨_, _, rfl, by omega⟩, htold, h.ok, hstay.len, by simp only; omega, by simp at hrw ⊢; omega⟩
          · generalize addSync D ledB (LRow.text ⟨x, min ((lgOf M x).ceil + step) most⟩) = A at *
            obtain ⟨D2, ec⟩ := A
            dsimp only at *
            subst e1
            rw [if_neg (by simp)]
            have hfresh : ∀ p ∈ T, p.1 = x → p.2 ≠ (lgOf M x).c := fun p hp e => by
              have := (htold p hp).2.2.2
              rw [e] at this
              omega
            refine .inr ⟨rfl, _, l ++ [⟨x, min ((lgOf M x).ceil + step) most⟩], [], rfl, by omega, hfresh, by omega, ⟨by rw [List.map_append]; exact e8, by simpa using hok2⟩, fun k => ?_, fun k => .inl ?_, .inl rfl, fun p hp => ?_, ledOk_put h.ok (by omega) x _ (by simp only; omega) hcl, ?_, by simp only; omega, by simp at hrw ⊢; omega⟩
            · rw [lgOf_put, ceilOf_snoc]
              dsimp only
              split
              · simp only; omega
              · exact h.cnt k
            · rw [lgOf_put, ceilOf_snoc]
              dsimp only
              split
              · rfl
              · exact hsm k
            · rw [lgOf_put, ceilOf_snoc]
              dsimp only
              rcases List.mem_append.1 hp with hp | hp
              · have := htold p hp
                split
                · rename_i e
                  rw [← e] at this
                  refine ⟨by rw [← e]; omega, ?_, ?_, ?_⟩
                  · omega
                  · omega
                  · simp only; omega
                · exact this
              · simp only [List.mem_singleton] at hp
                subst hp
                rw [if_pos rfl, if_pos rfl]
                refine ⟨by simp only; omega, by simp only; omega, by simp only; omega, by simp only; omega⟩
            · have := Mp.length_put_le M x (⟨(lgOf M x).c + 1, min ((lgOf M x).ceil + step) most⟩ : Cnt)
              simp only
              omega
      · rename_i hne
        have hfresh : ∀ p ∈ T, p.1 = x → p.2 ≠ (lgOf M x).c := fun p hp e => by
          have := (htold p hp).2.2.2
          rw [e] at this
          omega
        have hsx : (lgOf M x).ceil = ceilOf l x := hsame.resolve_right (fun hh => hne hh.1)
        refine .inr ⟨rfl, _, l, t, rfl, by omega, hfresh, by omega, h.ld, fun k => ?_, fun k => ?_, h.pend, fun p hp => ?_, ledOk_put h.ok (by omega) x _ (by simp only; omega) hok.2, ?_, hstay.trace, hstay.rows⟩
        · rw [lgOf_put]
          split
          · rename_i e
            rw [← e]
            simp only
            omega
          · exact h.cnt k
        · rw [lgOf_put]
          split
          · rename_i e
            rw [← e]
            exact .inl hsx
          · exact h.same k
        · rw [lgOf_put]
          rcases List.mem_append.1 hp with hp | hp
          · have := htold p hp
            split
            · rename_i e
              rw [← e] at this
              rw [← e]
              exact ⟨by omega, by omega, by omega, by simp only; omega⟩
            · exact this
          · simp only [List.mem_singleton] at hp
            subst hp
            rw [if_pos rfl]
            exact ⟨by simp only; omega, by simp only; omega, by simp only; omega, by simp only; omega⟩
        · have := Mp.length_put_le M x (⟨(lgOf M x).c + 1, (lgOf M x).ceil⟩ : Cnt)
          simp only
          omega
end
theorem nonceB_inj {a b : Nat} (ha : a < 1099511627776) (hb : b < 1099511627776) (h : nonceB a = nonceB b) : a = b := by
  unfold nonceB at h
  have h2 := List.append_cancel_left h
  have h3 := congrArg fromH h2
  rw [fromH_high, fromH_high, Nat.mod_eq_of_lt (by simp; omega), Nat.mod_eq_of_lt (by simp; omega)] at h3
  exact h3
end Go.Proofs.Ytpkolkgndhagiaa
