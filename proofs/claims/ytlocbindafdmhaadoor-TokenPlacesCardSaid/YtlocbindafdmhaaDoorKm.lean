/- next of package token's reader: a symbol. -/
import Derived.Test.YtlocbindafdmhaaDoorKl
namespace Go.Proofs.YtlocbindafdmhaaDoor
open Go.RowKit

theorem symRet_some (y : ByteArray) : symRet (some y.data.toList) = .returned (.tuple #[.string y, .bool true]) := rfl
theorem symRet_none : symRet none = .returned (.tuple #[.string ⟨#[]⟩, .bool false]) := rfl
set_option maxHeartbeats 3200000 in
set_option maxRecDepth 100000 in
theorem next_sym (b : Nat) (s : ByteArray) (p : Nat × Nat) (w : World) (h : RD w b s p) (hz : 0 < s.size) (hL : isLet s[0] = false) (hD : isDig s[0] = false) (h34 : (s[0].toNat : Int) ≠ 34) :
    Calls Tryd.prog 29 #[.pointer (some ⟨b, 0, none⟩)] w fun e w' => e = nxtRet (readTok s.data.toList) p ∧ Below w.heap.size w w' := by
  have e2 := nonempty s hz
  have hb := h.lt
  obtain ⟨c0, c1, c2, f0, f1, f2⟩ := h.cells
  have HRd := read_sym s[0] (s.data.toList.drop 1) hL hD h34
  rw [← first_byte s hz] at HRd
  have HL := Lib.hid hL; clear hL
  have HD := Lib.hid hD; clear hD
  have q34 : ((s[0].toNat : Int) == 34) = false := by simp; omega
  clear h34
  cases hS : symOf s.data.toList with
  | none =>
    rw [hS] at HRd
    have HV := Lib.hid HRd; clear HRd
    have HS := Lib.hid hS; clear hS
    go_enter Tryd.func29, Tryd.ntmps29
    go_wp2_with fail
    ((with_reducible refine (tletter_any s[0] _).mono ?_); rintro e wn ⟨rfl, rfl⟩)
    rw [HL.out]
    go_wp2_with fail
    ((with_reducible refine (tdigit_any s[0] _).mono ?_); rintro e wn ⟨rfl, rfl⟩)
    rw [HD.out]
    go_wp2_with fail
    ((with_reducible refine (symbol_any s _).mono ?_); rintro e w3 ⟨rfl, hb3⟩)
    rw [HS.out, symRet_none]
    have HB := Lib.hid (below_then ((below_alloc w _).alloc (by simp) _) hb3)
    obtain ⟨tr0, tr1, tr2, tr3, tr4, tt0, tt1, tt2, tt3, tt4, fr0, fr1, fr2, fr3, fr4, ft0, ft1, ft2, ft3, ft4⟩ := tok_facts hb3
    clear hb3
    go_wp2_with fail
    refine bodyPost_ret (v := .tuple #[tkv 0 ⟨#[]⟩ 0 p, .int .i64 0, .int .i64 3]) (by simp [results, Tryd.results29, go_sem, tr0, tr1, tr2, tr3, tr4]; rfl) rfl ⟨nxt_err HV.out, ?_⟩
    (repeat (first | (with_reducible refine bset0 ?_ _ _) | (with_reducible refine bset1 ?_ _ _) | (with_reducible refine Below.drew ?_))); (with_reducible exact HB.out)
  | some x =>
    obtain ⟨y, rfl⟩ : ∃ y : ByteArray, y.data.toList = x := ⟨⟨x.toArray⟩, rfl⟩
    rw [hS] at HRd
    have HV := Lib.hid (show readTok s.data.toList = .ok (⟨4, y.data.toList, 0⟩, y.size) by rw [HRd, ← len_byte y]); clear HRd
    have HS := Lib.hid hS; clear hS
    go_enter Tryd.func29, Tryd.ntmps29
    go_wp2_with fail
    ((with_reducible refine (tletter_any s[0] _).mono ?_); rintro e wn ⟨rfl, rfl⟩)
    rw [HL.out]
    go_wp2_with fail
    ((with_reducible refine (tdigit_any s[0] _).mono ?_); rintro e wn ⟨rfl, rfl⟩)
    rw [HD.out]
    go_wp2_with fail
    ((with_reducible refine (symbol_any s _).mono ?_); rintro e w3 ⟨rfl, hb3⟩)
    rw [HS.out, symRet_some]
    have HB := Lib.hid (below_then ((below_alloc w _).alloc (by simp) _) hb3)
    obtain ⟨tr0, tr1, tr2, tr3, tr4, tt0, tt1, tt2, tt3, tt4, fr0, fr1, fr2, fr3, fr4, ft0, ft1, ft2, ft3, ft4⟩ := tok_facts hb3
    clear hb3
    go_wp2_with fail
    refine bodyPost_ret (v := .tuple #[tkv 4 y 0 p, .int .i64 y.size, .int .i64 0]) (by simp [results, Tryd.results29, go_sem, tr0, tr1, tr2, tr3, tr4]; rfl) rfl ⟨nxt_ok HV.out rfl, ?_⟩
    (repeat (first | (with_reducible refine bset0 ?_ _ _) | (with_reducible refine bset1 ?_ _ _) | (with_reducible refine Below.drew ?_))); (with_reducible exact HB.out)
end Go.Proofs.YtlocbindafdmhaaDoor
