/- next of package token's reader: a number. -/
import Derived.Test.YtbbdgncjpbfooaaDoorKl
namespace Go.Proofs.YtbbdgncjpbfooaaDoor
open Go.RowKit

theorem foldl_ge (r : List UInt8) : ∀ acc : Nat, acc ≤ r.foldl (fun n c => 10 * n + (c.toNat - 48)) acc := by
  induction r with
  | nil => intro acc; exact Nat.le_refl _
  | cons c r ih => intro acc; exact Nat.le_trans (show acc ≤ 10 * acc + (c.toNat - 48) by omega) (ih _)
theorem parse_dig (r : List UInt8) : ∀ acc : Nat, acc < 18446744073709551616 → (∀ c ∈ r, isDig c = true) →
    (r.foldl (fun n c => 10 * n + (c.toNat - 48)) acc < 18446744073709551616 → Lib.parseUint10 acc r = .ok (r.foldl (fun n c => 10 * n + (c.toNat - 48)) acc)) ∧
    (18446744073709551616 ≤ r.foldl (fun n c => 10 * n + (c.toNat - 48)) acc → Lib.parseUint10 acc r = .range) := by
  induction r with
  | nil => intro acc ha _; exact ⟨fun _ => rfl, fun h => absurd h (by simp; omega)⟩
  | cons c r ih =>
    intro acc ha hd
    have hc : 48 ≤ c.toNat ∧ c.toNat ≤ 57 := by have := hd c (List.mem_cons_self ..); unfold isDig at this; simpa using this
    have hr : ∀ x ∈ r, isDig x = true := fun x hx => hd x (List.mem_cons_of_mem _ hx)
    have hge := foldl_ge r (10 * acc + (c.toNat - 48))
    simp only [List.foldl_cons, Lib.parseUint10]
    rw [if_pos hc]
    by_cases h1 : 1844674407370955162 ≤ acc
    · rw [if_pos h1]
      exact ⟨fun h => absurd h (by omega), fun _ => rfl⟩
    · rw [if_neg h1]
      by_cases h2 : 18446744073709551616 ≤ acc * 10 + (c.toNat - 48)
      · rw [if_pos h2]
        exact ⟨fun h => absurd h (by omega), fun _ => rfl⟩
      · rw [if_neg h2, show acc * 10 + (c.toNat - 48) = 10 * acc + (c.toNat - 48) by omega]
        exact ih _ (by omega) hr
theorem atoi_dig (l : List UInt8) (hne : l ≠ []) (hd : ∀ c ∈ l, isDig c = true) : (dval l < 9223372036854775808 → Lib.atoiAll l = .ok (dval l : Int)) ∧ (9223372036854775808 ≤ dval l → Lib.atoiAll l = .range) := by
  cases l with
  | nil => exact absurd rfl hne
  | cons c r =>
    have hc : 48 ≤ c.toNat ∧ c.toNat ≤ 57 := by have := hd c (List.mem_cons_self ..); unfold isDig at this; simpa using this
    obtain ⟨p1, p2⟩ := parse_dig (c :: r) 0 (by omega) hd
    unfold Lib.atoiAll
    simp only
    rw [if_neg (by omega)]
    have hm : Lib.parseMag (c :: r) = Lib.parseUint10 0 (c :: r) := by unfold Lib.parseMag; rw [if_neg (by simp)]
    rw [hm]
    show (dval (c :: r) < _ → _) ∧ (_ ≤ dval (c :: r) → _)
    change (dval (c :: r) < _ → _) at p1
    change (_ ≤ dval (c :: r) → _) at p2
    constructor
    · intro h
      rw [p1 (by omega)]
      simp only
      have h5 : List.foldl (fun n (c : UInt8) => 10 * n + (c.toNat - 48)) 0 (c :: r) = dval (c :: r) := rfl
      rw [h5, if_neg (by omega), if_neg (by omega), if_neg (by omega)]
    · intro h
      by_cases h6 : dval (c :: r) < 18446744073709551616
      · rw [p1 h6]
        simp only
        have h5 : List.foldl (fun n (c : UInt8) => 10 * n + (c.toNat - 48)) 0 (c :: r) = dval (c :: r) := rfl
        rw [h5, if_pos (by omega)]
      · rw [p2 (by omega)]
theorem ext_size (s : ByteArray) (n : Nat) (h : n ≤ s.size) : (s.extract 0 n).size = n := by rw [← len_byte, ext_upto, List.length_take, len_byte]; omega
theorem span_dig (l : List UInt8) : ∀ c ∈ l.take (spanN isDig l), isDig c = true := by
  have h : l.take (spanN isDig l) = l.takeWhile isDig := by
    unfold spanN
    exact (List.prefix_iff_eq_take.1 (List.takeWhile_prefix isDig)).symm
  rw [h]
  intro c hc
  exact List.all_eq_true.1 (List.all_takeWhile) c hc
theorem span_pos (c : UInt8) (r : List UInt8) (h : isDig c = true) : 1 ≤ spanN isDig (c :: r) := by
  unfold spanN; rw [List.takeWhile_cons, h]; simp
/-- a byte that may not follow a number -/
def tailB : List UInt8 → Bool
  | [] => false
  | d :: _ => isLet d || decide (d.toNat = 95)
theorem read_num (c : UInt8) (r : List UInt8) (h : isDig c = true) : readTok (c :: r) = if tailB ((c :: r).drop (spanN isDig (c :: r))) then .error 3 else if 4503599627370496 < dval ((c :: r).take (spanN isDig (c :: r))) then .error 6 else .ok (⟨2, [], dval ((c :: r).take (spanN isDig (c :: r)))⟩, spanN isDig (c :: r)) := by
  simp only [readTok, spanN, let_not_dig c h, h, Bool.false_eq_true, if_false, if_true]
  rfl
/-- the library's error of a number out of range is laid -/
def PR (w : World) : Prop := ∃ tp q, w.var? Tryd.prog "strconv.ErrRange" = some #[.iface tp q]
theorem gRan : Tryd.prog.globalNamed "strconv.ErrRange" = some 3 := by kernel_rfl
theorem var_lt {w : World} {n : String} {g : Nat} {cs : Array Value} (hg : Tryd.prog.globalNamed n = some g) (h : w.var? Tryd.prog n = some cs) : g < w.heap.size := by
  unfold World.var? at h
  rw [hg] at h
  rcases Nat.lt_or_ge g w.heap.size with h2 | h2
  · exact h2
  · simp [Array.getElem?_eq_none h2] at h
theorem PR.below {w w' : World} (h : PR w) (hb : Below w.heap.size w w') : PR w' := by
  obtain ⟨tp, q, h1⟩ := h
  exact ⟨tp, q, var?_below hb gRan (var_lt gRan h1) h1⟩
theorem atoi_good (s : ByteArray) (v : Int) (w : World) (hs : s.size ≤ 281474976710656) (h : Lib.atoiAll s.data.toList = .ok v) :
    Calls Tryd.prog 48 #[.string s] w fun e w' => e = .returned (.tuple #[.int .i64 v, .nilIface]) ∧ Below w.heap.size w w' := by
  refine (Tryd.strconv_Atoi_ok s (by omega) v h w).mono fun e w' ⟨h1, h2⟩ => ⟨h1, ?_⟩
  rcases h2 with rfl | ⟨t, rfl⟩
  · exact Below.refl _ _
  · exact Lib.bytesWorld_below w _ _
/-- Atoi says: out of range -/
def AtoiR (w : World) (e : Ending) (w' : World) : Prop := ∃ (n : Int) (N : Nat), e = .returned (.tuple #[.int .i64 n, .iface 112 (.pointer (some ⟨N, 0, none⟩))]) ∧ Below w.heap.size w w'
theorem atoi_range (s : ByteArray) (w : World) (hs : s.size ≤ 281474976710656) (hp : PR w) (h : Lib.atoiAll s.data.toList = .range) :
    Calls Tryd.prog 48 #[.string s] w (AtoiR w) := by
  obtain ⟨tp, q, h1⟩ := hp
  exact (Tryd.strconv_Atoi_range_var s hs h tp q w h1).mono fun e w' ⟨N, h2, _, _, h3⟩ => ⟨_, N, h2, h3⟩
end Go.Proofs.YtbbdgncjpbfooaaDoor
