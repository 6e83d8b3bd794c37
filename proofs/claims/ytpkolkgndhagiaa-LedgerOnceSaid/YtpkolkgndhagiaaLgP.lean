/- ledger, plainly: a disk whose one file is rows of a ledger, and counters that go with it. No program. -/
import Derived.Test.YtpkolkgndhagiaaLg4
import Derived.Test.YtpkolkgndhagiaaFD
namespace Go.Proofs.Ytpkolkgndhagiaa
open Go.RowKit Go.Maps

theorem rowNext_back (x : LRow) (rest : Bs) (h : lrowOk x) : rowNext ⟨x.text ++ rest, false⟩ = (x, true, ⟨rest, false⟩) := by
  obtain ⟨key, ceil⟩ := x
  obtain ⟨h1, h2⟩ := h
  dsimp only at h1 h2
  have l1 := textB_length_le key
  have l2 := numB_length_le ceil
  have e1 := text_back (textB key ++ numB ceil) 600 rest (by simp only [List.length_append]; omega) (by simp only [List.length_append]; omega)
  have e2 := text_back key 300 (numB ceil) (by omega) h1
  have e3 := num_back ceil 1099511627776 [] (by omega) h2
  rw [List.append_nil] at e3
  have hne : (textB key ++ numB ceil).isEmpty = false := by simp [textB, numB]
  unfold rowNext readRow LRow.text
  simp only [e1, e2, e3, hne]
  rfl
theorem lrows_back (l : List LRow) (h : ∀ p ∈ l, lrowOk p) : ledRows (l.map LRow.text).flatten = l ∧ ledRest (l.map LRow.text).flatten = [] := by
  induction l with
  | nil => exact ledScan_stop (by decide)
  | cons p r ih =>
    obtain ⟨i1, i2⟩ := ih (fun q hq => h q (by simp [hq]))
    have hb := rowNext_back p (r.map LRow.text).flatten (h p (by simp))
    rw [List.map_cons, List.flatten_cons]
    have h1 := ledScan_step (s := p.text ++ (r.map LRow.text).flatten) (by rw [hb])
    rw [hb] at h1
    dsimp only at h1
    rw [h1.1, h1.2, i1, i2]
    exact ⟨rfl, rfl⟩
theorem lrows_len (l : List LRow) (h : ∀ p ∈ l, lrowOk p) : (l.map LRow.text).flatten.length ≤ 327 * l.length := by
  induction l with
  | nil => simp
  | cons p r ih =>
    have h1 := lrow_length_le p
    have h2 := (h p (by simp)).1
    have h3 := ih (fun q hq => h q (by simp [hq]))
    simp only [List.map_cons, List.flatten_cons, List.length_append, List.length_cons]
    omega
structure LD (D : Dk) (l t : List LRow) : Prop where
  fd : FD ledB D (l.map LRow.text) (t.map LRow.text)
  ok : ∀ x ∈ l ++ t, lrowOk x
theorem LD.open {D : Dk} {l t : List LRow} (h : LD D l t) : ledOpen D = (D, some (ledPuts (l ++ t)), 0) := by
  have hf : ledFile D = ((l ++ t).map LRow.text).flatten := by unfold ledFile; rw [h.fd.now, fget_one, List.map_append]; rfl
  obtain ⟨h1, h2⟩ := lrows_back (l ++ t) h.ok
  unfold ledOpen
  rw [hf, h1, h2, if_pos ⟨by rw [h.fd.now, fhas_one], rfl⟩]
theorem LD.crash {D : Dk} {l t : List LRow} (h : LD D l t) (n : Int) : LD (D.crash n) (l ++ t.take n.toNat) [] := by
  refine ⟨?_, fun x hx => h.ok x ?_⟩
  · have := h.fd.crash n
    rw [List.map_append, List.map_take]
    exact this
  · simp only [List.append_nil, List.mem_append] at hx ⊢
    exact hx.imp id List.mem_of_mem_take
theorem LD.roomy {D : Dk} {l t : List LRow} (h : LD D l t) {n : Nat} (ht : D.trace.length ≤ n) (hl : 327 * (l ++ t).length + 1 ≤ n) : D.Roomy n := by
  have h1 := lrows_len (l ++ t) h.ok
  rw [List.map_append] at h1
  exact h.fd.roomy ht (by omega) (by simp at hl ⊢; omega)
theorem LD.crashFit {D : Dk} {l t : List LRow} (h : LD D l t) (hl : (l ++ t).length ≤ 1000000) : D.CrashFit := by
  have h1 := lrows_len (l ++ t) h.ok
  rw [List.map_append] at h1
  exact h.fd.crashFit (by omega) (by simp at hl ⊢; omega) (by decide)
theorem lgOf_put (M : Mp Cnt) (k : Bs) (c : Cnt) (j : Bs) : lgOf (M.put k c) j = if k = j then c else lgOf M j := by
  unfold lgOf
  rw [Mp.get_put]
  split <;> rfl
theorem lgOf_puts (l : List LRow) (x : LRow) (j : Bs) : lgOf (ledPuts (l ++ [x])) j = if x.key = j then ⟨x.ceil, x.ceil⟩ else lgOf (ledPuts l) j := by
  rw [ledPuts_snoc, lgOf_put]
theorem ledPuts_same (l : List LRow) (j : Bs) : (lgOf (ledPuts l) j).c = (lgOf (ledPuts l) j).ceil := by
  have : ∀ (r : List LRow), ∀ l', l = l' ++ r → (lgOf (ledPuts l') j).c = (lgOf (ledPuts l') j).ceil → (lgOf (ledPuts (l' ++ r)) j).c = (lgOf (ledPuts (l' ++ r)) j).ceil := by
    intro r
    induction r with
    | nil => intro l' _ h; simpa using h
    | cons x r ih =>
      intro l' e h
      have := ih (l' ++ [x]) (by simpa using e) (by rw [lgOf_puts]; split <;> first | rfl | exact h)
      simpa using this
  simpa using this l [] rfl rfl
theorem reserve_eq (D : Dk) (x : Bs) (n : Nat) : ledReserve D x n = addSync D ledB (LRow.text ⟨x, n⟩) := rfl

/-- Counters, and the file that goes with them (b: a bound). -/
structure LInv (b step most : Nat) (D : Dk) (M : Mp Cnt) (l t : List LRow) : Prop where
  ld : LD D l t
  cnt : ∀ k, (lgOf M k).c ≤ (lgOf M k).ceil ∧ (lgOf M k).ceil = (lgOf (ledPuts l) k).ceil ∧ (lgOf M k).ceil < (lgOf M k).c + step
  ok : ledOk M
  len : M.length ≤ b
  trace : D.trace.length ≤ 10 + 2 * b
  rows : (l ++ t).length ≤ b
theorem LInv.roomy {b step most : Nat} {D : Dk} {M : Mp Cnt} {l t : List LRow} (h : LInv b step most D M l t) (hb : b ≤ 1000) : D.Roomy 1000000 := h.ld.roomy (by have := h.trace; omega) (by have := h.rows; omega)
theorem ledOk_put {M : Mp Cnt} (h : ledOk M) (hl : M.length ≤ 100000) (x : Bs) (c : Cnt) (h1 : c.c ≤ c.ceil) (h2 : c.ceil ≤ 1099511627776) : ledOk (M.put x c) := by
  refine ⟨by have := Mp.length_put_le M x c; omega, fun p hp => ?_⟩
  rcases Mp.mem_put.1 hp with rfl | ⟨hp, _⟩
  · exact ⟨h1, h2⟩
  · exact h.2 p hp
/-- What asking for a nonce leads to. -/
theorem LInv.next {b step most : Nat} {D : Dk} {M : Mp Cnt} {l t : List LRow} (h : LInv b step most D M l t) (x : Bs) (hb : b ≤ 1000) (hm : most ≤ 1099511627776) :
    ((ledNextN D M step most x).2.2.2 ≠ 0 ∧ (ledNextN D M step most x).2.2.1 = [] ∧ (ledNextN D M step most x).2.1 = M ∧ (ledNextN D M step most x).1.quota = D.quota ∧ ∃ t2, LInv (b + 1) step most (ledNextN D M step most x).1 M l t2) ∨
    ((ledNextN D M step most x).2.2.2 = 0 ∧ x.length ≤ 300 ∧ (lgOf M x).c < most ∧ (ledNextN D M step most x).2.2.1 = nonceB (lgOf M x).c ∧ (ledNextN D M step most x).1.quota = D.quota ∧
      ∃ ceil, (ledNextN D M step most x).2.1 = M.put x ⟨(lgOf M x).c + 1, ceil⟩ ∧
        (((lgOf M x).c ≠ (lgOf M x).ceil ∧ ceil = (lgOf M x).ceil ∧ (ledNextN D M step most x).1 = D ∧ LInv (b + 1) step most D (M.put x ⟨(lgOf M x).c + 1, ceil⟩) l t) ∨
         ((lgOf M x).c = (lgOf M x).ceil ∧ ceil = min ((lgOf M x).ceil + step) most ∧ t = [] ∧ D.dead = false ∧ (ledNextN D M step most x).1.dead = false ∧ (D.fuse < 0 → (ledNextN D M step most x).1.fuse < 0) ∧ LInv (b + 1) step most (ledNextN D M step most x).1 (M.put x ⟨(lgOf M x).c + 1, ceil⟩) (l ++ [⟨x, ceil⟩]) []))) := by
  have hstay : LInv (b + 1) step most D M l t := ⟨h.ld, h.cnt, h.ok, by have := h.len; omega, by have := h.trace; omega, by have := h.rows; omega⟩
  have hc := h.cnt x
  have hok := h.ok.of x
  unfold ledNextN
  split
  · exact .inl ⟨by simp, rfl, rfl, rfl, t, hstay⟩
  · split
    · exact .inl ⟨by simp, rfl, rfl, rfl, t, hstay⟩
    · rename_i h300 hsp
      split
      · rename_i heq
        rw [reserve_eq]
        cases hd : D.dead with
        | true =>
          obtain ⟨e1, e2⟩ := addSync_dead (nm := ledB) (row := LRow.text ⟨x, min ((lgOf M x).ceil + step) most⟩) hd
          rw [if_pos e2, e1]
          exact .inl ⟨e2, rfl, rfl, rfl, t, hstay⟩
        | false =>
          have ht0 : t = [] := by
            cases t with
            | nil => rfl
            | cons a r => have := h.ld.fd.dead (by simp); rw [hd] at this; cases this
          subst ht0
          have hrow : lrowOk ⟨x, min ((lgOf M x).ceil + step) most⟩ := ⟨by simp only; omega, by simp only; omega⟩
          have hok2 : ∀ y ∈ l ++ [(⟨x, min ((lgOf M x).ceil + step) most⟩ : LRow)], lrowOk y := by
            intro y hy
            rcases List.mem_append.1 hy with hy | hy
            · exact h.ld.ok y (by simp [hy])
            · simp only [List.mem_singleton] at hy; rw [hy]; exact hrow
          have htr := h.trace
          have hrw := h.rows
          simp only [List.append_nil] at hrw
          rcases h.ld.fd.add (LRow.text ⟨x, min ((lgOf M x).ceil + step) most⟩) with ⟨e1, _⟩ | ⟨e1, e2, e3, e4, _, e5⟩ | ⟨e1, e2, _, e4, e5, e6, _, e8⟩
          · rw [e1, if_pos (by simp)]
            exact .inl ⟨by simp, rfl, rfl, rfl, [], hstay⟩
          · rw [if_pos (by rw [e1]; simp)]
            refine .inl ⟨by rw [e1]; simp, rfl, rfl, e3, ?_⟩
            rcases e5 with e5 | e5
            · exact ⟨[], ⟨⟨e5, h.ld.ok⟩, h.cnt, h.ok, hstay.len, by simp only; omega, hstay.rows⟩⟩
            · exact ⟨[⟨x, min ((lgOf M x).ceil + step) most⟩], ⟨⟨e5, hok2⟩, h.cnt, h.ok, hstay.len, by simp only; omega, by simp; omega⟩⟩
          · rw [if_neg (by rw [e1]; simp)]
            refine .inr ⟨rfl, by omega, by omega, rfl, e4, _, rfl, .inr ⟨heq, rfl, rfl, rfl, e2, fun hf => by rw [e6 hf]; exact hf, ⟨⟨?_, by simpa using hok2⟩, fun k => ?_, ledOk_put h.ok (by have := h.len; omega) x _ (by simp only; omega) (by simp only; omega), ?_, by simp only; omega, by simp; omega⟩⟩⟩
            · rw [List.map_append]
              exact e8
            · rw [lgOf_put, lgOf_puts]
              dsimp only
              split
              · exact ⟨by simp only; omega, rfl, by simp only; omega⟩
              · exact h.cnt k
            · have := Mp.length_put_le M x (⟨(lgOf M x).c + 1, min ((lgOf M x).ceil + step) most⟩ : Cnt)
              have := h.len
              omega
      · rename_i hne
        refine .inr ⟨rfl, by omega, by omega, rfl, rfl, _, rfl, .inl ⟨hne, rfl, rfl, ⟨h.ld, fun k => ?_, ledOk_put h.ok (by have := h.len; omega) x _ (by simp only; omega) hok.2, ?_, hstay.trace, hstay.rows⟩⟩⟩
        · rw [lgOf_put]
          split
          · rename_i hk
            subst hk
            exact ⟨by simp only; omega, hc.2.1, by simp only; omega⟩
          · exact h.cnt k
        · have := Mp.length_put_le M x (⟨(lgOf M x).c + 1, (lgOf M x).ceil⟩ : Cnt)
          have := h.len
          omega
end Go.Proofs.Ytpkolkgndhagiaa
