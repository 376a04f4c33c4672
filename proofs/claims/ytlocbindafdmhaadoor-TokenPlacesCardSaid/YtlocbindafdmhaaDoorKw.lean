/- token of the reference: what a call returns. -/
import Derived.Test.YtlocbindafdmhaaDoorKv
namespace Go.Proofs.YtlocbindafdmhaaDoor
open Go.RowKit

theorem rtk_form (R : Except Nat (Tok × Nat)) (i : Nat) : ∃ (a : Int) (u : ByteArray) (b x y : Int), rtkRet R i = .returned (.tuple #[tkv a u b (0, 0), .int .i64 x, .int .i64 y]) := by
  cases R with
  | error e => exact ⟨_, _, _, _, _, rfl⟩
  | ok x => obtain ⟨t, n⟩ := x; exact ⟨_, _, _, _, _, rfl⟩
/-- behind a call that makes memory: the token that is to be returned -/
theorem zw_facts {w w3 : World} (hb : Below (ZW w).heap.size (ZW w) w3) :
    w3.cell? ⟨w.heap.size, 0, none⟩ = some (.int .i64 0) ∧ w3.cell? ⟨w.heap.size, 1, none⟩ = some (.string ⟨#[]⟩) ∧ w3.cell? ⟨w.heap.size, 2, none⟩ = some (.int .i64 0) ∧ w3.cell? ⟨w.heap.size, 3, none⟩ = some (.int .i64 0) ∧ w3.cell? ⟨w.heap.size, 4, none⟩ = some (.int .i64 0) ∧ w3.frozen? ⟨w.heap.size, 0, none⟩ = false ∧ w3.frozen? ⟨w.heap.size, 1, none⟩ = false ∧ w3.frozen? ⟨w.heap.size, 2, none⟩ = false ∧ w3.frozen? ⟨w.heap.size, 3, none⟩ = false ∧ w3.frozen? ⟨w.heap.size, 4, none⟩ = false := by
  have b0 : w3.heap[w.heap.size]? = some (.cells #[.int .i64 0, .string ⟨#[]⟩, .int .i64 0, .int .i64 0, .int .i64 0] 33 (0, 0)) := by
    rw [hb.block _ (by unfold ZW; simp)]
    exact Array.getElem?_push_size ..
  refine ⟨?_, ?_, ?_, ?_, ?_, ?_, ?_, ?_, ?_, ?_⟩
  all_goals first | (rw [Lib.cell_of_heap b0]; rfl) | exact Lib.frozen_of_heap b0 _
theorem rsymRet_some (y : ByteArray) : rsymRet (some y.data.toList) = .returned (.string y) := rfl
theorem rsymRet_none : rsymRet none = .returned (.string ⟨#[]⟩) := rfl
theorem zw_fold (w : World) : w.alloc (.cells #[.int .i64 0, .string ⟨#[]⟩, .int .i64 0, .int .i64 0, .int .i64 0] 33) = ZW w := rfl

set_option maxHeartbeats 6400000 in
set_option maxRecDepth 100000 in
theorem rtoken_any (s : ByteArray) (i : Nat) (w : World) (hi : i < s.size) (hs : s.size ≤ 1073741824) :
    Calls Tryd.prog 32 #[.string s, .int .i64 i] w fun e w' => e = rtkRet (readTok (s.data.toList.drop i)) i ∧ Below w.heap.size w w' := by
  have HB0 := Lib.hid (show Below w.heap.size w (ZW w) from below_alloc w _)
  cases hL : isLet s[i]
  · have HL := Lib.hid hL
    cases hD : isDig s[i]
    · have HD := Lib.hid hD
      by_cases h34 : (s[i].toNat : Int) = 34
      · have q34 : ((s[i].toNat : Int) == 34) = true := by rw [h34]; rfl
        have HF := Lib.hid (fun w => rtext_any s i w hi hs h34)
        clear hL hD h34
        go_enter Tryd.func32, Tryd.ntmps32
        go_wp2_with fail
        ((with_reducible refine (rletter_any s[i] _).mono ?_); rintro e wn ⟨rfl, rfl⟩)
        rw [HL.out]
        go_wp2_with fail
        ((with_reducible refine (rdigit_any s[i] _).mono ?_); rintro e wn ⟨rfl, rfl⟩)
        rw [HD.out]
        go_wp2_with fail
        ((with_reducible refine (HF.out _).mono ?_); rintro e w3 ⟨rfl, hb3⟩)
        have HB := Lib.hid (below_then HB0.out hb3)
        obtain ⟨tr0, tr1, tr2, tr3, tr4, fr0, fr1, fr2, fr3, fr4⟩ := zw_facts hb3
        clear hb3
        obtain ⟨a, u, b, x, y, hform⟩ := rtk_form (readTok (s.data.toList.drop i)) i
        rw [hform]
        have HE := Lib.hid hform; clear hform
        unfold tkv
        go_wp2_with fail
        refine bodyPost_ret (v := .tuple #[tkv a u b (0, 0), .int .i64 x, .int .i64 y]) (by simp [results, Tryd.results32, go_sem, tr0, tr1, tr2, tr3, tr4]; rfl) rfl ⟨HE.out.symm, ?_⟩
        (repeat (with_reducible refine bset0 ?_ _ _)); (with_reducible exact HB.out)
      · have q34 : ((s[i].toNat : Int) == 34) = false := by simp; omega
        have HRd := read_sym s[i] (s.data.toList.drop (i + 1)) hL hD h34
        rw [← drop_byte s i hi] at HRd
        have HX := Lib.hid (ext_list s i)
        clear hL hD h34
        cases hS : symOf (s.data.toList.drop i) with
        | none =>
          rw [hS] at HRd
          have HE := Lib.hid HRd; clear HRd
          have HS := Lib.hid hS; clear hS
          go_enter Tryd.func32, Tryd.ntmps32
          go_wp2_with fail
          ((with_reducible refine (rletter_any s[i] _).mono ?_); rintro e wn ⟨rfl, rfl⟩)
          rw [HL.out]
          go_wp2_with fail
          ((with_reducible refine (rdigit_any s[i] _).mono ?_); rintro e wn ⟨rfl, rfl⟩)
          rw [HD.out]
          go_wp2_with fail
          ((with_reducible refine (rsymbol_any (s.extract i s.size) _).mono ?_); rintro e w3 ⟨rfl, hb3⟩)
          rw [HX.out, HS.out, rsymRet_none]
          have HB := Lib.hid (below_then HB0.out hb3)
          obtain ⟨tr0, tr1, tr2, tr3, tr4, fr0, fr1, fr2, fr3, fr4⟩ := zw_facts hb3
          clear hb3
          go_wp2_with fail
          refine bodyPost_ret (v := .tuple #[tkv 0 ⟨#[]⟩ 0 (0, 0), .int .i64 0, .int .i64 3]) (by simp [results, Tryd.results32, go_sem, tr0, tr1, tr2, tr3, tr4]; rfl) rfl ⟨rtk_err HE.out, ?_⟩
          (repeat (with_reducible refine bset0 ?_ _ _)); (with_reducible exact HB.out)
        | some x =>
          obtain ⟨y, rfl⟩ : ∃ y : ByteArray, y.data.toList = x := ⟨⟨x.toArray⟩, rfl⟩
          rw [hS] at HRd
          have hx := sym_in _ _ hS
          rw [len_byte, List.length_drop, len_byte] at hx
          have e1 := nonempty y (by omega)
          have e2 : (!y.toList.isEmpty) = true := by rw [e1]; rfl
          have HE := Lib.hid (show readTok (s.data.toList.drop i) = .ok (⟨4, y.data.toList, 0⟩, y.size) by rw [HRd, ← len_byte y]); clear HRd
          have HS := Lib.hid hS; clear hS
          obtain ⟨hx1, hx2⟩ := hx
          go_enter Tryd.func32, Tryd.ntmps32
          go_wp2_with fail
          ((with_reducible refine (rletter_any s[i] _).mono ?_); rintro e wn ⟨rfl, rfl⟩)
          rw [HL.out]
          go_wp2_with fail
          ((with_reducible refine (rdigit_any s[i] _).mono ?_); rintro e wn ⟨rfl, rfl⟩)
          rw [HD.out]
          go_wp2_with fail
          ((with_reducible refine (rsymbol_any (s.extract i s.size) _).mono ?_); rintro e w3 ⟨rfl, hb3⟩)
          rw [HX.out, HS.out, rsymRet_some]
          have HB := Lib.hid (below_then HB0.out hb3)
          obtain ⟨tr0, tr1, tr2, tr3, tr4, fr0, fr1, fr2, fr3, fr4⟩ := zw_facts hb3
          clear hb3
          go_wp2_with fail
          refine bodyPost_ret (v := .tuple #[tkv 4 y 0 (0, 0), .int .i64 ((i + y.size : Nat) : Int), .int .i64 0]) (by simp [results, Tryd.results32, go_sem, tr0, tr1, tr2, tr3, tr4]; rfl) rfl ⟨rtk_ok HE.out rfl rfl, ?_⟩
          (repeat (with_reducible refine bset0 ?_ _ _)); (with_reducible exact HB.out)
    · have HD := Lib.hid hD
      have HF := Lib.hid (fun w => rnumber_any s i w hi (by omega) hD)
      clear hL hD
      go_enter Tryd.func32, Tryd.ntmps32
      go_wp2_with fail
      ((with_reducible refine (rletter_any s[i] _).mono ?_); rintro e wn ⟨rfl, rfl⟩)
      rw [HL.out]
      go_wp2_with fail
      ((with_reducible refine (rdigit_any s[i] _).mono ?_); rintro e wn ⟨rfl, rfl⟩)
      rw [HD.out]
      go_wp2_with fail
      ((with_reducible refine (HF.out _).mono ?_); rintro e w3 ⟨rfl, hb3⟩)
      have HB := Lib.hid (below_then HB0.out hb3)
      obtain ⟨tr0, tr1, tr2, tr3, tr4, fr0, fr1, fr2, fr3, fr4⟩ := zw_facts hb3
      clear hb3
      obtain ⟨a, u, b, x, y, hform⟩ := rtk_form (readTok (s.data.toList.drop i)) i
      rw [hform]
      have HE := Lib.hid hform; clear hform
      unfold tkv
      go_wp2_with fail
      refine bodyPost_ret (v := .tuple #[tkv a u b (0, 0), .int .i64 x, .int .i64 y]) (by simp [results, Tryd.results32, go_sem, tr0, tr1, tr2, tr3, tr4]; rfl) rfl ⟨HE.out.symm, ?_⟩
      (repeat (with_reducible refine bset0 ?_ _ _)); (with_reducible exact HB.out)
  · have HL := Lib.hid hL
    have HF := Lib.hid (fun w => rname_any s i w hi (by omega) hL)
    clear hL
    go_enter Tryd.func32, Tryd.ntmps32
    go_wp2_with fail
    ((with_reducible refine (rletter_any s[i] _).mono ?_); rintro e wn ⟨rfl, rfl⟩)
    rw [HL.out]
    go_wp2_with fail
    ((with_reducible refine (HF.out _).mono ?_); rintro e w3 ⟨rfl, hb3⟩)
    have HB := Lib.hid (below_then HB0.out hb3)
    obtain ⟨tr0, tr1, tr2, tr3, tr4, fr0, fr1, fr2, fr3, fr4⟩ := zw_facts hb3
    clear hb3
    obtain ⟨a, u, b, x, y, hform⟩ := rtk_form (readTok (s.data.toList.drop i)) i
    rw [hform]
    have HE := Lib.hid hform; clear hform
    unfold tkv
    go_wp2_with fail
    refine bodyPost_ret (v := .tuple #[tkv a u b (0, 0), .int .i64 x, .int .i64 y]) (by simp [results, Tryd.results32, go_sem, tr0, tr1, tr2, tr3, tr4]; rfl) rfl ⟨HE.out.symm, ?_⟩
    (repeat (with_reducible refine bset0 ?_ _ _)); (with_reducible exact HB.out)
end Go.Proofs.YtlocbindafdmhaaDoor
