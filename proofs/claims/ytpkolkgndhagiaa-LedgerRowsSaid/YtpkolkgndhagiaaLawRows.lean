/- LedgerRows: its walk: which rows any bytes are, up to where, and a counter's nonce, are as the reference says. -/
import Derived.Test.YtpkolkgndhagiaaR13
import Derived.Test.YtpkolkgndhagiaaAw13
import Derived.Deep.QuietTactic
import Derived.BigQuiet
namespace Go.Proofs.Ytpkolkgndhagiaa
open Go.RowKit Go.Maps Go.Sort

theorem lrows_cells {w0 w : World} {F0 : List Nat} {L : List Res} {e : TypeId} {a : Option Addr} {rows : List LRow} {n cap : Nat} (S : Sp w0 F0 w (rowR e 2 (.slice a n cap) n (rows.map LRow.vals).flatten :: L)) {i : Nat} {x : LRow} (hx : rows[i]? = some x) (hn : n = rows.length) :
    ∃ g, a = some ⟨g, 0, none⟩ ∧ w.cell? ⟨g, i * 2, none⟩ = some (.string ⟨x.key.toArray⟩) ∧ w.cell? ⟨g, i * 2 + 1, none⟩ = some (.int .u64 x.ceil) := by
  rcases S.rowForm with ⟨h, h0⟩ | ⟨g, c, h⟩
  · have : rows = [] := List.eq_nil_of_length_eq_zero (by omega)
    rw [this] at hx
    cases hx
  · simp only [Value.slice.injEq, true_and] at h
    obtain ⟨rfl, rfl⟩ := h
    have hm : (rows.map LRow.vals)[i]? = some x.vals := by simp [hx]
    have hl2 : ∀ y ∈ rows.map LRow.vals, y.length = 2 := by
      intro y hy
      obtain ⟨z, _, rfl⟩ := List.mem_map.1 hy
      rfl
    exact ⟨g, rfl, S.rowCell hl2 hm (j := 0) rfl, S.rowCell hl2 hm (j := 1) rfl⟩
theorem rowR_slice {w0 w : World} {F0 : List Nat} {L : List Res} {e k n : Nat} {v : Value} {xs : List Value} (S : Sp w0 F0 w (rowR e k v n xs :: L)) : ∃ a cap, v = .slice a n cap := by
  rcases S.rowForm with ⟨rfl, h0⟩ | ⟨g, cap, rfl⟩
  · exact ⟨none, 0, by rw [h0]⟩
  · exact ⟨_, _, rfl⟩
set_option maxRecDepth 100000 in
set_option maxHeartbeats 4000000 in
theorem ledgerRows_walk (s : Bs) (n : Int) (W : World) (hs : s.length ≤ maxLen) (hn : 0 ≤ n ∧ n ≤ 18446744073709551615) :
    Calls Try.prog 3 #[.string ⟨s.toArray⟩, .int .u64 n] W fun e w2 => e = .returned (.bool true) ∧ Ext [] W w2 := by
  obtain ⟨n, rfl⟩ : ∃ k : Nat, n = k := ⟨n.toNat, by omega⟩
  have HN : Hid (n < 18446744073709551616) := by unfold Hid; omega
  have HS0 := Lib.hid (Sp.nil W [])
  have HM := Lib.hid hs
  clear hn hs
  go_enter Try.func3, Try.ntmps3
  go_wp2_with fail
  refine (awake13S HS0.out).mono ?_
  rintro e w1 ⟨rfl, S⟩
  have HS1 := Lib.hid S
  clear S
  by_cases g1 : 4096 < s.length
  · have g1' : (4096 : Int) < s.length := by omega
    go_wp2
    go_ret
    exact ⟨rfl, HS1.out.ext⟩
  have g1' : (s.length : Int) ≤ 4096 := by omega
  have HSL : Hid (s.length ≤ 1000000000) := by unfold Hid; omega
  clear g1
  go_wp2_with fail
  refine (ledRowsS s HS1.out HSL.out).mono ?_
  rintro e w2 ⟨va, rfl, S⟩
  have HS2 := Lib.hid S
  clear S HS1
  go_wp2_with fail
  refine (r13RowsS s HS2.out HSL.out).mono ?_
  rintro e w3 ⟨vb, rfl, S⟩
  have HS3 := Lib.hid S
  clear S HS2
  have hrl := (ledScan_len (s.length + 1) s).1
  have hr1 : ((ledRows s).length : Int) ≤ 4096 := by unfold ledRows; omega
  generalize ledRows s = rows at *
  generalize ledRest s = rest at *
  obtain ⟨aa, ca, rfl⟩ := rowR_slice HS3.out.pull1
  obtain ⟨ab, cb, rfl⟩ := rowR_slice HS3.out
  clear hrl
  go_wp2_with fail
  refine (nonceS n HS3.out HN.out).mono ?_
  rintro e w4 ⟨rfl, S⟩
  have HS4 := Lib.hid S
  clear S HS3
  go_wp2_with fail
  refine (r13NonceS n HS4.out HN.out).mono ?_
  rintro e w5 ⟨rfl, S⟩
  have HS5 := Lib.hid S
  clear S HS4
  generalize nonceB n = nb at *
  go_wp2_with fail
  go_loopw [44] (fun v wr => ∃ k : Nat, v = .int .i64 k ∧ k ≤ rows.length ∧ Sp W [] wr (lrowsQ (.slice ab rows.length cb) rows :: lrowsR (.slice aa rows.length ca) rows :: [])) (fun v _ => rows.length - (intOf v).toNat)
  case atStart => exact ⟨0, rfl, by omega, HS5.out⟩
  case round =>
    obtain ⟨k, rfl, hk, S6⟩ := hrel
    have HS6 := Lib.hid S6
    by_cases hlt : k < rows.length
    · have hlt' : (k : Int) < rows.length := by omega
      have hk0 : (0 : Int) ≤ k := by omega
      obtain ⟨x, hx⟩ : ∃ x, rows[k]? = some x := ⟨_, List.getElem?_eq_getElem hlt⟩
      obtain ⟨g, rfl, b0, b1⟩ := lrows_cells S6 hx rfl
      obtain ⟨h, rfl, a0, a1⟩ := lrows_cells S6.pull1 hx rfl
      clear S6 hx HS5
      go_wp2_with fail
      go_quiet (fail)
      clear a0 a1 b0 b1
      go_wp2_with fail
      go_roundw
      case rel => exact ⟨k + 1, by go_num, by omega, HS6.out.drewN _⟩
      case measure => simp [intOf]; omega
    · clear S6
      go_wp2
      go_ret
      exact ⟨rfl, HS6.out.ext⟩
end Go.Proofs.Ytpkolkgndhagiaa
