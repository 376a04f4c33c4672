/- next of package token's reader: the token at the beginning (the end; a name; a symbol). -/
import Derived.Test.YtlocbindafdmhaaDoorKe
import Derived.Test.YtlocbindafdmhaaDoorKj
import Derived.Test.YtlocbindafdmhaaDoorKk
import Derived.RegionTactic
import Derived.ChangeAlike
namespace Go.Proofs.YtlocbindafdmhaaDoor
open Go.RowKit

theorem nonempty (s : ByteArray) (h : 0 < s.size) : s.toList.isEmpty = false := by
  rw [ByteArray.toList_eq]
  cases h5 : s.data.toList with
  | nil => have h6 := len_byte s; rw [h5] at h6; simp at h6; omega
  | cons a r => rfl
theorem isempty (s : ByteArray) (h : s.size = 0) : s.toList = [] := by
  rw [ByteArray.toList_eq]; exact List.eq_nil_of_length_eq_zero (by rw [len_byte]; exact h)
theorem first_byte (s : ByteArray) (h : 0 < s.size) : s.data.toList = s[0] :: s.data.toList.drop 1 := by
  have := drop_byte s 0 h; rwa [List.drop_zero] at this
/-- a token as a value -/
def tkv (k : Int) (t : ByteArray) (n : Int) (p : Nat × Nat) : Value := .agg #[.int .i64 k, .string t, .int .i64 n, .int .i64 (p.1 : Int), .int .i64 (p.2 : Int)]
/-- what next returns -/
def nxtRet (r : Except Nat (Tok × Nat)) (p : Nat × Nat) : Ending :=
  match r with
  | .ok (t, n) => .returned (.tuple #[tkv t.k ⟨t.t.toArray⟩ t.n p, .int .i64 (n : Int), .int .i64 0])
  | .error e => .returned (.tuple #[tkv 0 ⟨#[]⟩ 0 p, .int .i64 0, .int .i64 (e : Int)])
theorem nxt_ok {r : Except Nat (Tok × Nat)} {p : Nat × Nat} {k n m : Nat} {t : List UInt8} {u : ByteArray} (h : r = .ok (⟨k, t, n⟩, m)) (hu : u.data.toList = t) : Ending.returned (.tuple #[tkv k u n p, .int .i64 (m : Int), .int .i64 0]) = nxtRet r p := by
  subst hu; rw [h]; rfl
theorem nxt_err {r : Except Nat (Tok × Nat)} {p : Nat × Nat} {e : Nat} (h : r = .error e) : Ending.returned (.tuple #[tkv 0 ⟨#[]⟩ 0 p, .int .i64 0, .int .i64 (e : Int)]) = nxtRet r p := by
  rw [h]; rfl
theorem read_name (c : UInt8) (r : List UInt8) (h : isLet c = true) : readTok (c :: r) = if 40 < spanN isNm (c :: r) then .error 5 else .ok (⟨1, (c :: r).take (spanN isNm (c :: r)), 0⟩, spanN isNm (c :: r)) := by
  simp only [readTok, spanN, h, if_true]
  rfl
theorem ext_upto (s : ByteArray) (n : Nat) : (s.extract 0 n).data.toList = s.data.toList.take n := by rw [Lib.extract_data]; simp
theorem spanN_le (f : UInt8 → Bool) (l : List UInt8) : spanN f l ≤ l.length := by
  unfold spanN
  exact (List.takeWhile_sublist f).length_le
theorem let_not_dig (c : UInt8) (h : isDig c = true) : isLet c = false := by unfold isDig at h; unfold isLet; simp at h ⊢; omega
theorem read_sym (c : UInt8) (r : List UInt8) (h1 : isLet c = false) (h2 : isDig c = false) (h3 : (c.toNat : Int) ≠ 34) : readTok (c :: r) = match symOf (c :: r) with | some x => .ok (⟨4, x, 0⟩, x.length) | none => .error 3 := by
  simp only [readTok, h1, h2, Bool.false_eq_true, if_false, if_neg (show ¬ c.toNat = 34 by omega)]
  rfl

set_option maxHeartbeats 1600000 in
set_option maxRecDepth 100000 in
theorem next_end (b : Nat) (s : ByteArray) (p : Nat × Nat) (w : World) (h : RD w b s p) (hz : s.size = 0) :
    Calls Tryd.prog 29 #[.pointer (some ⟨b, 0, none⟩)] w fun e w' => e = .returned (.tuple #[tkv 5 ⟨#[]⟩ 0 p, .int .i64 0, .int .i64 0]) ∧ Below w.heap.size w w' := by
  have e1 := isempty s hz
  have e2 : s.toList.isEmpty = true := by rw [e1]; rfl
  have hb := h.lt
  obtain ⟨c0, c1, c2, f0, f1, f2⟩ := h.cells
  clear hz
  go_enter Tryd.func29, Tryd.ntmps29
  go_wp2_with fail
  refine bodyPost_ret (v := .tuple #[tkv 5 ⟨#[]⟩ 0 p, .int .i64 0, .int .i64 0]) (by simp [results, Tryd.results29, go_sem]; rfl) rfl ⟨rfl, ?_⟩
  exact (below_alloc w _).alloc (by simp) _

set_option maxHeartbeats 3200000 in
set_option maxRecDepth 100000 in
theorem next_name (b : Nat) (s : ByteArray) (p : Nat × Nat) (w : World) (h : RD w b s p) (hz : 0 < s.size) (hL : isLet s[0] = true) (hs : s.size ≤ 1073741824) :
    Calls Tryd.prog 29 #[.pointer (some ⟨b, 0, none⟩)] w fun e w' => e = nxtRet (readTok s.data.toList) p ∧ Below w.heap.size w w' := by
  have e2 := nonempty s hz
  have hb := h.lt
  obtain ⟨c0, c1, c2, f0, f1, f2⟩ := h.cells
  have HRd := read_name s[0] (s.data.toList.drop 1) hL
  rw [← first_byte s hz] at HRd
  have hnl := spanN_le isNm s.data.toList
  rw [len_byte] at hnl
  have HL := Lib.hid hL; clear hL
  have HLen := Lib.hid (length_nm s)
  generalize spanN isNm s.data.toList = n at *
  by_cases h40 : 40 < n
  · rw [if_pos h40] at HRd
    have HV := Lib.hid HRd; clear HRd
    go_enter Tryd.func29, Tryd.ntmps29
    go_wp2_with fail
    ((with_reducible refine (tletter_any s[0] _).mono ?_); rintro e wn ⟨rfl, rfl⟩)
    rw [HL.out]
    go_wp2_with fail
    ((with_reducible refine (HLen.out _ (by omega)).mono ?_); rintro e wn ⟨rfl, rfl⟩)
    go_wp2_with fail
    refine bodyPost_ret (v := .tuple #[tkv 0 ⟨#[]⟩ 0 p, .int .i64 0, .int .i64 5]) (by simp [results, Tryd.results29, go_sem]; rfl) rfl ⟨nxt_err HV.out, ?_⟩
    exact (below_alloc w _).alloc (by simp) _
  · rw [if_neg h40] at HRd
    have HV := Lib.hid HRd; clear HRd
    have h40' : n ≤ 40 := by omega
    clear h40
    go_enter Tryd.func29, Tryd.ntmps29
    go_wp2_with fail
    ((with_reducible refine (tletter_any s[0] _).mono ?_); rintro e wn ⟨rfl, rfl⟩)
    rw [HL.out]
    go_wp2_with fail
    ((with_reducible refine (HLen.out _ (by omega)).mono ?_); rintro e wn ⟨rfl, rfl⟩)
    go_wp2_with fail
    go_region
    go_wp2_with fail
    refine bodyPost_ret (v := .tuple #[tkv 1 (s.extract 0 n) 0 p, .int .i64 n, .int .i64 0]) (by simp [results, Tryd.results29, go_sem]; rfl) rfl ⟨nxt_ok HV.out (ext_upto s n), ?_⟩
    exact ((below_alloc w _).alloc (by simp) _).drew

theorem bset0 {w a : World} (h : Below w.heap.size w a) (o : Nat) (v : Value) : Below w.heap.size w (a.setCell ⟨w.heap.size, o, none⟩ v) := h.setCell (Nat.le_refl _) v
theorem bset1 {w a : World} (h : Below w.heap.size w a) (o : Nat) (v : Value) : Below w.heap.size w (a.setCell ⟨w.heap.size + 1, o, none⟩ v) := h.setCell (Nat.le_succ _) v
/-- behind a call that makes memory: the two tokens that next has laid -/
theorem tok_facts {w w3 : World} {p : Nat × Nat} (hb : Below (((w.alloc (.cells #[.int .i64 0, .string ⟨#[]⟩, .int .i64 0, .int .i64 0, .int .i64 0] 33)).alloc (.cells #[.int .i64 0, .string ⟨#[]⟩, .int .i64 0, .int .i64 (p.1 : Int), .int .i64 (p.2 : Int)] 33))).heap.size ((w.alloc (.cells #[.int .i64 0, .string ⟨#[]⟩, .int .i64 0, .int .i64 0, .int .i64 0] 33)).alloc (.cells #[.int .i64 0, .string ⟨#[]⟩, .int .i64 0, .int .i64 (p.1 : Int), .int .i64 (p.2 : Int)] 33)) w3) :
    w3.cell? ⟨w.heap.size, 0, none⟩ = some (.int .i64 0) ∧ w3.cell? ⟨w.heap.size, 1, none⟩ = some (.string ⟨#[]⟩) ∧ w3.cell? ⟨w.heap.size, 2, none⟩ = some (.int .i64 0) ∧ w3.cell? ⟨w.heap.size, 3, none⟩ = some (.int .i64 0) ∧ w3.cell? ⟨w.heap.size, 4, none⟩ = some (.int .i64 0) ∧ w3.cell? ⟨w.heap.size + 1, 0, none⟩ = some (.int .i64 0) ∧ w3.cell? ⟨w.heap.size + 1, 1, none⟩ = some (.string ⟨#[]⟩) ∧ w3.cell? ⟨w.heap.size + 1, 2, none⟩ = some (.int .i64 0) ∧ w3.cell? ⟨w.heap.size + 1, 3, none⟩ = some (.int .i64 (p.1 : Int)) ∧ w3.cell? ⟨w.heap.size + 1, 4, none⟩ = some (.int .i64 (p.2 : Int)) ∧ w3.frozen? ⟨w.heap.size, 0, none⟩ = false ∧ w3.frozen? ⟨w.heap.size, 1, none⟩ = false ∧ w3.frozen? ⟨w.heap.size, 2, none⟩ = false ∧ w3.frozen? ⟨w.heap.size, 3, none⟩ = false ∧ w3.frozen? ⟨w.heap.size, 4, none⟩ = false ∧ w3.frozen? ⟨w.heap.size + 1, 0, none⟩ = false ∧ w3.frozen? ⟨w.heap.size + 1, 1, none⟩ = false ∧ w3.frozen? ⟨w.heap.size + 1, 2, none⟩ = false ∧ w3.frozen? ⟨w.heap.size + 1, 3, none⟩ = false ∧ w3.frozen? ⟨w.heap.size + 1, 4, none⟩ = false := by
  have b0 : w3.heap[w.heap.size]? = some (.cells #[.int .i64 0, .string ⟨#[]⟩, .int .i64 0, .int .i64 0, .int .i64 0] 33 (0, 0)) := by
    rw [hb.block _ (by simp; try omega)]
    show ((w.heap.push _).push _)[w.heap.size]? = _
    rw [Array.getElem?_push, if_neg (by simp), Array.getElem?_push_size]
  have b1 : w3.heap[w.heap.size + 1]? = some (.cells #[.int .i64 0, .string ⟨#[]⟩, .int .i64 0, .int .i64 (p.1 : Int), .int .i64 (p.2 : Int)] 33 (0, 0)) := by
    rw [hb.block _ (by simp; try omega)]
    show ((w.heap.push _).push _)[w.heap.size + 1]? = _
    rw [Array.getElem?_push, if_pos (by simp)]
  refine ⟨?_, ?_, ?_, ?_, ?_, ?_, ?_, ?_, ?_, ?_, ?_, ?_, ?_, ?_, ?_, ?_, ?_, ?_, ?_, ?_⟩
  all_goals first | (rw [Lib.cell_of_heap b0]; rfl) | (rw [Lib.cell_of_heap b1]; rfl) | exact Lib.frozen_of_heap b0 _ | exact Lib.frozen_of_heap b1 _

end Go.Proofs.YtlocbindafdmhaaDoor
