/- next of package token's reader: a number. -/
import Derived.Test.YtlocbindafdmhaaDoorKn
namespace Go.Proofs.YtlocbindafdmhaaDoor
open Go.RowKit

set_option maxHeartbeats 3200000 in
set_option maxRecDepth 100000 in
theorem num_let (b : Nat) (s : ByteArray) (p : Nat × Nat) (w : World) (n : Nat) (h : RD w b s p) (hz : 0 < s.size) (hD : isDig s[0] = true) (hs : s.size ≤ 1073741824) (_hnl : n ≤ s.size) (HLen : Hid (∀ w : World, s.size ≤ 9223372036854775000 → Calls Tryd.prog 57 #[.string s, .func (.func 59) #[] #[]] w fun e w' => e = .returned (.int .i64 (n : Int)) ∧ w = w')) (R : Except Nat (Tok × Nat)) (HV : Hid (R = .error 3)) (hlt : n < s.size) (HT : Hid (isLet s[n] = true)) :
    Calls Tryd.prog 29 #[.pointer (some ⟨b, 0, none⟩)] w fun e w' => e = nxtRet R p ∧ Below w.heap.size w w' := by
  have e2 := nonempty s hz
  have hb := h.lt
  obtain ⟨c0, c1, c2, f0, f1, f2⟩ := h.cells
  have HL := Lib.hid (let_not_dig s[0] hD)
  have HD := Lib.hid hD; clear hD
  go_enter Tryd.func29, Tryd.ntmps29
  go_wp2_with fail
  ((with_reducible refine (tletter_any s[0] _).mono ?_); rintro e wn ⟨rfl, rfl⟩)
  rw [HL.out]
  go_wp2_with fail
  ((with_reducible refine (tdigit_any s[0] _).mono ?_); rintro e wn ⟨rfl, rfl⟩)
  rw [HD.out]
  go_wp2_with fail
  ((with_reducible refine (HLen.out _ (by omega)).mono ?_); rintro e wn ⟨rfl, rfl⟩)
  go_wp2_with fail
  ((with_reducible refine (tletter_any s[n] _).mono ?_); rintro e wn ⟨rfl, rfl⟩)
  rw [HT.out]
  go_wp2_with fail
  refine bodyPost_ret (v := .tuple #[tkv 0 ⟨#[]⟩ 0 p, .int .i64 0, .int .i64 3]) (by simp [results, Tryd.results29, go_sem]; rfl) rfl ⟨nxt_err HV.out, ?_⟩
  exact (below_alloc w _).alloc (by simp) _

set_option maxHeartbeats 3200000 in
set_option maxRecDepth 100000 in
theorem num_us (b : Nat) (s : ByteArray) (p : Nat × Nat) (w : World) (n : Nat) (h : RD w b s p) (hz : 0 < s.size) (hD : isDig s[0] = true) (hs : s.size ≤ 1073741824) (_hnl : n ≤ s.size) (HLen : Hid (∀ w : World, s.size ≤ 9223372036854775000 → Calls Tryd.prog 57 #[.string s, .func (.func 59) #[] #[]] w fun e w' => e = .returned (.int .i64 (n : Int)) ∧ w = w')) (R : Except Nat (Tok × Nat)) (HV : Hid (R = .error 3)) (hlt : n < s.size) (HT : Hid (isLet s[n] = false)) (h95 : ((s[n].toNat : Int) == 95) = true) :
    Calls Tryd.prog 29 #[.pointer (some ⟨b, 0, none⟩)] w fun e w' => e = nxtRet R p ∧ Below w.heap.size w w' := by
  have e2 := nonempty s hz
  have hb := h.lt
  obtain ⟨c0, c1, c2, f0, f1, f2⟩ := h.cells
  have HL := Lib.hid (let_not_dig s[0] hD)
  have HD := Lib.hid hD; clear hD
  go_enter Tryd.func29, Tryd.ntmps29
  go_wp2_with fail
  ((with_reducible refine (tletter_any s[0] _).mono ?_); rintro e wn ⟨rfl, rfl⟩)
  rw [HL.out]
  go_wp2_with fail
  ((with_reducible refine (tdigit_any s[0] _).mono ?_); rintro e wn ⟨rfl, rfl⟩)
  rw [HD.out]
  go_wp2_with fail
  ((with_reducible refine (HLen.out _ (by omega)).mono ?_); rintro e wn ⟨rfl, rfl⟩)
  go_wp2_with fail
  ((with_reducible refine (tletter_any s[n] _).mono ?_); rintro e wn ⟨rfl, rfl⟩)
  rw [HT.out]
  go_wp2_with fail
  refine bodyPost_ret (v := .tuple #[tkv 0 ⟨#[]⟩ 0 p, .int .i64 0, .int .i64 3]) (by simp [results, Tryd.results29, go_sem]; rfl) rfl ⟨nxt_err HV.out, ?_⟩
  exact (below_alloc w _).alloc (by simp) _

set_option maxHeartbeats 3200000 in
set_option maxRecDepth 100000 in
theorem num_ok_a (b : Nat) (s : ByteArray) (p : Nat × Nat) (w : World) (n : Nat) (h : RD w b s p) (hz : 0 < s.size) (hD : isDig s[0] = true) (hs : s.size ≤ 1073741824) (hnl : n ≤ s.size) (HLen : Hid (∀ w : World, s.size ≤ 9223372036854775000 → Calls Tryd.prog 57 #[.string s, .func (.func 59) #[] #[]] w fun e w' => e = .returned (.int .i64 (n : Int)) ∧ w = w')) (V : Nat) (R : Except Nat (Tok × Nat)) (HV : Hid (R = .ok (⟨2, [], V⟩, n))) (HA : Hid (Lib.atoiAll (s.extract 0 n).data.toList = .ok (V : Int))) (hV : V ≤ 4503599627370496) (hlt : n < s.size) (HT : Hid (isLet s[n] = false)) (h95 : ((s[n].toNat : Int) == 95) = false) :
    Calls Tryd.prog 29 #[.pointer (some ⟨b, 0, none⟩)] w fun e w' => e = nxtRet R p ∧ Below w.heap.size w w' := by
  have e2 := nonempty s hz
  have hb := h.lt
  obtain ⟨c0, c1, c2, f0, f1, f2⟩ := h.cells
  have HL := Lib.hid (let_not_dig s[0] hD)
  have HD := Lib.hid hD; clear hD
  go_enter Tryd.func29, Tryd.ntmps29
  go_wp2_with fail
  ((with_reducible refine (tletter_any s[0] _).mono ?_); rintro e wn ⟨rfl, rfl⟩)
  rw [HL.out]
  go_wp2_with fail
  ((with_reducible refine (tdigit_any s[0] _).mono ?_); rintro e wn ⟨rfl, rfl⟩)
  rw [HD.out]
  go_wp2_with fail
  ((with_reducible refine (HLen.out _ (by omega)).mono ?_); rintro e wn ⟨rfl, rfl⟩)
  go_wp2_with fail
  ((with_reducible refine (tletter_any s[n] _).mono ?_); rintro e wn ⟨rfl, rfl⟩)
  rw [HT.out]
  go_wp2_with fail
  ((with_reducible refine (atoi_good (s.extract 0 n) V _ (by rw [ext_size s n hnl]; omega) HA.out).mono ?_); rintro e w3 ⟨rfl, hb3⟩)
  have HB := Lib.hid (below_then ((below_alloc w _).alloc (by simp) _) hb3)
  obtain ⟨tr0, tr1, tr2, tr3, tr4, tt0, tt1, tt2, tt3, tt4, fr0, fr1, fr2, fr3, fr4, ft0, ft1, ft2, ft3, ft4⟩ := tok_facts hb3
  clear hb3
  go_wp2_with fail
  refine bodyPost_ret (v := .tuple #[tkv 2 ⟨#[]⟩ V p, .int .i64 n, .int .i64 0]) (by simp [results, Tryd.results29, go_sem, tr0, tr1, tr2, tr3, tr4]; rfl) rfl ⟨nxt_ok HV.out rfl, ?_⟩
  (repeat (first | (with_reducible refine bset0 ?_ _ _) | (with_reducible refine bset1 ?_ _ _) | (with_reducible refine Below.drew ?_))); (with_reducible exact HB.out)

set_option maxHeartbeats 3200000 in
set_option maxRecDepth 100000 in
theorem num_big_a (b : Nat) (s : ByteArray) (p : Nat × Nat) (w : World) (n : Nat) (h : RD w b s p) (hz : 0 < s.size) (hD : isDig s[0] = true) (hs : s.size ≤ 1073741824) (hnl : n ≤ s.size) (HLen : Hid (∀ w : World, s.size ≤ 9223372036854775000 → Calls Tryd.prog 57 #[.string s, .func (.func 59) #[] #[]] w fun e w' => e = .returned (.int .i64 (n : Int)) ∧ w = w')) (V : Nat) (R : Except Nat (Tok × Nat)) (HV : Hid (R = .error 6)) (HA : Hid (Lib.atoiAll (s.extract 0 n).data.toList = .ok (V : Int))) (hV : 4503599627370496 < V) (hlt : n < s.size) (HT : Hid (isLet s[n] = false)) (h95 : ((s[n].toNat : Int) == 95) = false) :
    Calls Tryd.prog 29 #[.pointer (some ⟨b, 0, none⟩)] w fun e w' => e = nxtRet R p ∧ Below w.heap.size w w' := by
  have e2 := nonempty s hz
  have hb := h.lt
  obtain ⟨c0, c1, c2, f0, f1, f2⟩ := h.cells
  have HL := Lib.hid (let_not_dig s[0] hD)
  have HD := Lib.hid hD; clear hD
  go_enter Tryd.func29, Tryd.ntmps29
  go_wp2_with fail
  ((with_reducible refine (tletter_any s[0] _).mono ?_); rintro e wn ⟨rfl, rfl⟩)
  rw [HL.out]
  go_wp2_with fail
  ((with_reducible refine (tdigit_any s[0] _).mono ?_); rintro e wn ⟨rfl, rfl⟩)
  rw [HD.out]
  go_wp2_with fail
  ((with_reducible refine (HLen.out _ (by omega)).mono ?_); rintro e wn ⟨rfl, rfl⟩)
  go_wp2_with fail
  ((with_reducible refine (tletter_any s[n] _).mono ?_); rintro e wn ⟨rfl, rfl⟩)
  rw [HT.out]
  go_wp2_with fail
  ((with_reducible refine (atoi_good (s.extract 0 n) V _ (by rw [ext_size s n hnl]; omega) HA.out).mono ?_); rintro e w3 ⟨rfl, hb3⟩)
  have HB := Lib.hid (below_then ((below_alloc w _).alloc (by simp) _) hb3)
  obtain ⟨tr0, tr1, tr2, tr3, tr4, tt0, tt1, tt2, tt3, tt4, fr0, fr1, fr2, fr3, fr4, ft0, ft1, ft2, ft3, ft4⟩ := tok_facts hb3
  clear hb3
  go_wp2_with fail
  refine bodyPost_ret (v := .tuple #[tkv 0 ⟨#[]⟩ 0 p, .int .i64 0, .int .i64 6]) (by simp [results, Tryd.results29, go_sem, tr0, tr1, tr2, tr3, tr4]; rfl) rfl ⟨nxt_err HV.out, ?_⟩
  (repeat (first | (with_reducible refine bset0 ?_ _ _) | (with_reducible refine bset1 ?_ _ _) | (with_reducible refine Below.drew ?_))); (with_reducible exact HB.out)

set_option maxHeartbeats 3200000 in
set_option maxRecDepth 100000 in
theorem num_out_a (b : Nat) (s : ByteArray) (p : Nat × Nat) (w : World) (n : Nat) (h : RD w b s p) (hz : 0 < s.size) (hD : isDig s[0] = true) (hs : s.size ≤ 1073741824) (hnl : n ≤ s.size) (HLen : Hid (∀ w : World, s.size ≤ 9223372036854775000 → Calls Tryd.prog 57 #[.string s, .func (.func 59) #[] #[]] w fun e w' => e = .returned (.int .i64 (n : Int)) ∧ w = w')) (R : Except Nat (Tok × Nat)) (HV : Hid (R = .error 6)) (HP : Hid (PR w)) (HA : Hid (Lib.atoiAll (s.extract 0 n).data.toList = .range)) (hlt : n < s.size) (HT : Hid (isLet s[n] = false)) (h95 : ((s[n].toNat : Int) == 95) = false) :
    Calls Tryd.prog 29 #[.pointer (some ⟨b, 0, none⟩)] w fun e w' => e = nxtRet R p ∧ Below w.heap.size w w' := by
  have e2 := nonempty s hz
  have hb := h.lt
  obtain ⟨c0, c1, c2, f0, f1, f2⟩ := h.cells
  have HL := Lib.hid (let_not_dig s[0] hD)
  have HD := Lib.hid hD; clear hD
  go_enter Tryd.func29, Tryd.ntmps29
  go_wp2_with fail
  ((with_reducible refine (tletter_any s[0] _).mono ?_); rintro e wn ⟨rfl, rfl⟩)
  rw [HL.out]
  go_wp2_with fail
  ((with_reducible refine (tdigit_any s[0] _).mono ?_); rintro e wn ⟨rfl, rfl⟩)
  rw [HD.out]
  go_wp2_with fail
  ((with_reducible refine (HLen.out _ (by omega)).mono ?_); rintro e wn ⟨rfl, rfl⟩)
  go_wp2_with fail
  ((with_reducible refine (tletter_any s[n] _).mono ?_); rintro e wn ⟨rfl, rfl⟩)
  rw [HT.out]
  go_wp2_with fail
  ((with_reducible refine (atoi_range (s.extract 0 n) _ (by rw [ext_size s n hnl]; omega) (HP.out.below ((below_alloc w _).alloc (by simp) _)) HA.out).mono ?_); rintro e w3 ⟨n3, N3, rfl, hb3⟩)
  have HB := Lib.hid (below_then ((below_alloc w _).alloc (by simp) _) hb3)
  obtain ⟨tr0, tr1, tr2, tr3, tr4, tt0, tt1, tt2, tt3, tt4, fr0, fr1, fr2, fr3, fr4, ft0, ft1, ft2, ft3, ft4⟩ := tok_facts hb3
  clear hb3
  go_wp2_with fail
  refine bodyPost_ret (v := .tuple #[tkv 0 ⟨#[]⟩ 0 p, .int .i64 0, .int .i64 6]) (by simp [results, Tryd.results29, go_sem, tr0, tr1, tr2, tr3, tr4]; rfl) rfl ⟨nxt_err HV.out, ?_⟩
  (repeat (first | (with_reducible refine bset0 ?_ _ _) | (with_reducible refine bset1 ?_ _ _) | (with_reducible refine Below.drew ?_))); (with_reducible exact HB.out)

set_option maxHeartbeats 3200000 in
set_option maxRecDepth 100000 in
theorem num_ok_b (b : Nat) (s : ByteArray) (p : Nat × Nat) (w : World) (n : Nat) (h : RD w b s p) (hz : 0 < s.size) (hD : isDig s[0] = true) (hs : s.size ≤ 1073741824) (hnl : n ≤ s.size) (HLen : Hid (∀ w : World, s.size ≤ 9223372036854775000 → Calls Tryd.prog 57 #[.string s, .func (.func 59) #[] #[]] w fun e w' => e = .returned (.int .i64 (n : Int)) ∧ w = w')) (V : Nat) (R : Except Nat (Tok × Nat)) (HV : Hid (R = .ok (⟨2, [], V⟩, n))) (HA : Hid (Lib.atoiAll (s.extract 0 n).data.toList = .ok (V : Int))) (hV : V ≤ 4503599627370496) (hlt : ¬ n < s.size) :
    Calls Tryd.prog 29 #[.pointer (some ⟨b, 0, none⟩)] w fun e w' => e = nxtRet R p ∧ Below w.heap.size w w' := by
  have e2 := nonempty s hz
  have hb := h.lt
  obtain ⟨c0, c1, c2, f0, f1, f2⟩ := h.cells
  have HL := Lib.hid (let_not_dig s[0] hD)
  have HD := Lib.hid hD; clear hD
  have hdn : decide (n < s.size) = false := by simpa using hlt
  go_enter Tryd.func29, Tryd.ntmps29
  go_wp2_with fail
  ((with_reducible refine (tletter_any s[0] _).mono ?_); rintro e wn ⟨rfl, rfl⟩)
  rw [HL.out]
  go_wp2_with fail
  ((with_reducible refine (tdigit_any s[0] _).mono ?_); rintro e wn ⟨rfl, rfl⟩)
  rw [HD.out]
  go_wp2_with fail
  ((with_reducible refine (HLen.out _ (by omega)).mono ?_); rintro e wn ⟨rfl, rfl⟩)
  go_wp2_with fail
  ((with_reducible refine (atoi_good (s.extract 0 n) V _ (by rw [ext_size s n hnl]; omega) HA.out).mono ?_); rintro e w3 ⟨rfl, hb3⟩)
  have HB := Lib.hid (below_then ((below_alloc w _).alloc (by simp) _) hb3)
  obtain ⟨tr0, tr1, tr2, tr3, tr4, tt0, tt1, tt2, tt3, tt4, fr0, fr1, fr2, fr3, fr4, ft0, ft1, ft2, ft3, ft4⟩ := tok_facts hb3
  clear hb3
  go_wp2_with fail
  refine bodyPost_ret (v := .tuple #[tkv 2 ⟨#[]⟩ V p, .int .i64 n, .int .i64 0]) (by simp [results, Tryd.results29, go_sem, tr0, tr1, tr2, tr3, tr4]; rfl) rfl ⟨nxt_ok HV.out rfl, ?_⟩
  (repeat (first | (with_reducible refine bset0 ?_ _ _) | (with_reducible refine bset1 ?_ _ _) | (with_reducible refine Below.drew ?_))); (with_reducible exact HB.out)

set_option maxHeartbeats 3200000 in
set_option maxRecDepth 100000 in
theorem num_big_b (b : Nat) (s : ByteArray) (p : Nat × Nat) (w : World) (n : Nat) (h : RD w b s p) (hz : 0 < s.size) (hD : isDig s[0] = true) (hs : s.size ≤ 1073741824) (hnl : n ≤ s.size) (HLen : Hid (∀ w : World, s.size ≤ 9223372036854775000 → Calls Tryd.prog 57 #[.string s, .func (.func 59) #[] #[]] w fun e w' => e = .returned (.int .i64 (n : Int)) ∧ w = w')) (V : Nat) (R : Except Nat (Tok × Nat)) (HV : Hid (R = .error 6)) (HA : Hid (Lib.atoiAll (s.extract 0 n).data.toList = .ok (V : Int))) (hV : 4503599627370496 < V) (hlt : ¬ n < s.size) :
    Calls Tryd.prog 29 #[.pointer (some ⟨b, 0, none⟩)] w fun e w' => e = nxtRet R p ∧ Below w.heap.size w w' := by
  have e2 := nonempty s hz
  have hb := h.lt
  obtain ⟨c0, c1, c2, f0, f1, f2⟩ := h.cells
  have HL := Lib.hid (let_not_dig s[0] hD)
  have HD := Lib.hid hD; clear hD
  have hdn : decide (n < s.size) = false := by simpa using hlt
  go_enter Tryd.func29, Tryd.ntmps29
  go_wp2_with fail
  ((with_reducible refine (tletter_any s[0] _).mono ?_); rintro e wn ⟨rfl, rfl⟩)
  rw [HL.out]
  go_wp2_with fail
  ((with_reducible refine (tdigit_any s[0] _).mono ?_); rintro e wn ⟨rfl, rfl⟩)
  rw [HD.out]
  go_wp2_with fail
  ((with_reducible refine (HLen.out _ (by omega)).mono ?_); rintro e wn ⟨rfl, rfl⟩)
  go_wp2_with fail
  ((with_reducible refine (atoi_good (s.extract 0 n) V _ (by rw [ext_size s n hnl]; omega) HA.out).mono ?_); rintro e w3 ⟨rfl, hb3⟩)
  have HB := Lib.hid (below_then ((below_alloc w _).alloc (by simp) _) hb3)
  obtain ⟨tr0, tr1, tr2, tr3, tr4, tt0, tt1, tt2, tt3, tt4, fr0, fr1, fr2, fr3, fr4, ft0, ft1, ft2, ft3, ft4⟩ := tok_facts hb3
  clear hb3
  go_wp2_with fail
  refine bodyPost_ret (v := .tuple #[tkv 0 ⟨#[]⟩ 0 p, .int .i64 0, .int .i64 6]) (by simp [results, Tryd.results29, go_sem, tr0, tr1, tr2, tr3, tr4]; rfl) rfl ⟨nxt_err HV.out, ?_⟩
  (repeat (first | (with_reducible refine bset0 ?_ _ _) | (with_reducible refine bset1 ?_ _ _) | (with_reducible refine Below.drew ?_))); (with_reducible exact HB.out)

set_option maxHeartbeats 3200000 in
set_option maxRecDepth 100000 in
theorem num_out_b (b : Nat) (s : ByteArray) (p : Nat × Nat) (w : World) (n : Nat) (h : RD w b s p) (hz : 0 < s.size) (hD : isDig s[0] = true) (hs : s.size ≤ 1073741824) (hnl : n ≤ s.size) (HLen : Hid (∀ w : World, s.size ≤ 9223372036854775000 → Calls Tryd.prog 57 #[.string s, .func (.func 59) #[] #[]] w fun e w' => e = .returned (.int .i64 (n : Int)) ∧ w = w')) (R : Except Nat (Tok × Nat)) (HV : Hid (R = .error 6)) (HP : Hid (PR w)) (HA : Hid (Lib.atoiAll (s.extract 0 n).data.toList = .range)) (hlt : ¬ n < s.size) :
    Calls Tryd.prog 29 #[.pointer (some ⟨b, 0, none⟩)] w fun e w' => e = nxtRet R p ∧ Below w.heap.size w w' := by
  have e2 := nonempty s hz
  have hb := h.lt
  obtain ⟨c0, c1, c2, f0, f1, f2⟩ := h.cells
  have HL := Lib.hid (let_not_dig s[0] hD)
  have HD := Lib.hid hD; clear hD
  have hdn : decide (n < s.size) = false := by simpa using hlt
  go_enter Tryd.func29, Tryd.ntmps29
  go_wp2_with fail
  ((with_reducible refine (tletter_any s[0] _).mono ?_); rintro e wn ⟨rfl, rfl⟩)
  rw [HL.out]
  go_wp2_with fail
  ((with_reducible refine (tdigit_any s[0] _).mono ?_); rintro e wn ⟨rfl, rfl⟩)
  rw [HD.out]
  go_wp2_with fail
  ((with_reducible refine (HLen.out _ (by omega)).mono ?_); rintro e wn ⟨rfl, rfl⟩)
  go_wp2_with fail
  ((with_reducible refine (atoi_range (s.extract 0 n) _ (by rw [ext_size s n hnl]; omega) (HP.out.below ((below_alloc w _).alloc (by simp) _)) HA.out).mono ?_); rintro e w3 ⟨n3, N3, rfl, hb3⟩)
  have HB := Lib.hid (below_then ((below_alloc w _).alloc (by simp) _) hb3)
  obtain ⟨tr0, tr1, tr2, tr3, tr4, tt0, tt1, tt2, tt3, tt4, fr0, fr1, fr2, fr3, fr4, ft0, ft1, ft2, ft3, ft4⟩ := tok_facts hb3
  clear hb3
  go_wp2_with fail
  refine bodyPost_ret (v := .tuple #[tkv 0 ⟨#[]⟩ 0 p, .int .i64 0, .int .i64 6]) (by simp [results, Tryd.results29, go_sem, tr0, tr1, tr2, tr3, tr4]; rfl) rfl ⟨nxt_err HV.out, ?_⟩
  (repeat (first | (with_reducible refine bset0 ?_ _ _) | (with_reducible refine bset1 ?_ _ _) | (with_reducible refine Below.drew ?_))); (with_reducible exact HB.out)

theorem next_num (b : Nat) (s : ByteArray) (p : Nat × Nat) (w : World) (h : RD w b s p) (hz : 0 < s.size) (hD : isDig s[0] = true) (hs : s.size ≤ 1073741824) (hP : PR w) :
    Calls Tryd.prog 29 #[.pointer (some ⟨b, 0, none⟩)] w fun e w' => e = nxtRet (readTok s.data.toList) p ∧ Below w.heap.size w w' := by
  have HRd := read_num s[0] (s.data.toList.drop 1) hD
  have hpos := span_pos s[0] (s.data.toList.drop 1) hD
  rw [← first_byte s hz] at HRd hpos
  have hnl := spanN_le isDig s.data.toList
  rw [len_byte] at hnl
  have HLen := Lib.hid (length_dig s)
  have hdig := span_dig s.data.toList
  generalize spanN isDig s.data.toList = n at *
  obtain ⟨a1, a2⟩ := atoi_dig (s.data.toList.take n) (by intro e; have h5 := congrArg List.length e; rw [List.length_take, len_byte, List.length_nil] at h5; omega) hdig
  rw [← ext_upto s n] at a1 a2 HRd
  generalize dval (s.extract 0 n).data.toList = V at *
  have go : ∀ (ht : tailB (s.data.toList.drop n) = false), readTok s.data.toList = if 4503599627370496 < V then .error 6 else .ok (⟨2, [], V⟩, n) := fun ht => by rw [HRd, ht]; rfl
  by_cases hlt : n < s.size
  · have hdr := drop_byte s n hlt
    cases hT : isLet s[n]
    · by_cases h95 : (s[n].toNat : Int) = 95
      · exact num_us b s p w n h hz hD hs hnl HLen _ (show readTok s.data.toList = .error 3 by rw [HRd, hdr, tailB, hT, if_pos (by simp; omega)]) hlt hT (by rw [h95]; rfl)
      · have ht : tailB (s.data.toList.drop n) = false := by rw [hdr, tailB, hT]; simp; omega
        have hg := go ht
        have h95' : ((s[n].toNat : Int) == 95) = false := by simp; omega
        by_cases hV : V ≤ 4503599627370496
        · exact num_ok_a b s p w n h hz hD hs hnl HLen V _ (show readTok s.data.toList = _ by rw [hg, if_neg (by omega)]) (a1 (by omega)) hV hlt hT h95'
        · by_cases hV2 : V < 9223372036854775808
          · exact num_big_a b s p w n h hz hD hs hnl HLen V _ (show readTok s.data.toList = _ by rw [hg, if_pos (by omega)]) (a1 hV2) (by omega) hlt hT h95'
          · exact num_out_a b s p w n h hz hD hs hnl HLen _ (show readTok s.data.toList = _ by rw [hg, if_pos (by omega)]) hP (a2 (by omega)) hlt hT h95'
    · exact num_let b s p w n h hz hD hs hnl HLen _ (show readTok s.data.toList = .error 3 by rw [HRd, hdr, tailB, hT]; rfl) hlt hT
  · have ht : tailB (s.data.toList.drop n) = false := by rw [List.drop_eq_nil_of_le (by rw [len_byte]; omega)]; rfl
    have hg := go ht
    by_cases hV : V ≤ 4503599627370496
    · exact num_ok_b b s p w n h hz hD hs hnl HLen V _ (show readTok s.data.toList = _ by rw [hg, if_neg (by omega)]) (a1 (by omega)) hV hlt
    · by_cases hV2 : V < 9223372036854775808
      · exact num_big_b b s p w n h hz hD hs hnl HLen V _ (show readTok s.data.toList = _ by rw [hg, if_pos (by omega)]) (a1 hV2) (by omega) hlt
      · exact num_out_b b s p w n h hz hD hs hnl HLen _ (show readTok s.data.toList = _ by rw [hg, if_pos (by omega)]) hP (a2 (by omega)) hlt
end Go.Proofs.YtlocbindafdmhaaDoor
