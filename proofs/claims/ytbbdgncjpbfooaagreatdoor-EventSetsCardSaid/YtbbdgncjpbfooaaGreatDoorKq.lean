/- The reader of package token: how it goes on. blanks of package token: the reader goes over blanks and comments. Symbol of package token and of the reference: what a call returns. next of package token's reader: the token at the beginning (the end; a name; a symbol). next of package token's reader: a number. next of package token's reader: a symbol. next of package token's reader: a number. next of package token's reader: a literal; and next at every text. Tokens of package token: what the loop holds on to. -/
import Derived.Test.YtbbdgncjpbfooaaGreatDoorKb
import Derived.Test.YtbbdgncjpbfooaaGreatDoorShelfK
import Derived.Test.YtbbdgncjpbfooaaGreatDoorKj
import Derived.Deep.LoopGhost
import Derived.Lib.IndexBytes
import Derived.Lib.Strings
import Derived.Lib.Builder
import Derived.RegionTactic
import Derived.ChangeAlike
namespace Go.Proofs.YtbbdgncjpbfooaaGreatDoor
section
open Go.RowKit

theorem adv_nl (p : Nat × Nat) (c : UInt8) (h : (c.toNat : Int) = 10) : adv p c = (p.1 + 1, 1) := by unfold adv; rw [if_pos (by omega)]
theorem adv_no (p : Nat × Nat) (c : UInt8) (h : (c.toNat : Int) ≠ 10) : adv p c = (p.1, p.2 + 1) := by unfold adv; rw [if_neg (by omega)]
end
section
open Go.RowKit

theorem ext_list (s : ByteArray) (k : Nat) : (s.extract k s.size).data.toList = s.data.toList.drop k := Lib.extract_to_end s k
theorem ba_ext {s t : ByteArray} (h : s.data.toList = t.data.toList) : s = t := by
  apply ByteArray.ext; exact Array.ext' h
theorem lineN_index (l : List UInt8) : (lineN l < l.length ∧ Lib.indexByte l 10 = (lineN l : Int)) ∨ (lineN l = l.length ∧ Lib.indexByte l 10 = -1) := by
  induction l with
  | nil => right; simp [lineN, Lib.indexByte]
  | cons c l ih =>
    by_cases h : c.toNat = 10
    · have hc : c = 10 := by apply UInt8.toNat_inj.1; simpa using h
      left; simp [lineN, Lib.indexByte, hc]
    · have hc : ¬ c = 10 := fun e => h (by rw [e]; rfl)
      have hb : (c == (10 : UInt8)) = false := by simpa using hc
      simp only [lineN, Lib.indexByte, if_neg h, hb, List.length_cons]
      rcases ih with ⟨h1, h2⟩ | ⟨h1, h2⟩
      · left
        refine ⟨by omega, ?_⟩
        rw [h2]
        have : ((lineN l : Int) == -1) = false := by simp
        simp [this]
      · right
        refine ⟨by omega, ?_⟩
        rw [h2]; simp

theorem skip_bl (l : List UInt8) (k : Nat) (c : UInt8) (hc : l.drop k = c :: l.drop (k + 1)) (h : skipN l false = k + skipN (l.drop k) false) (hb : isBl c = true) : skipN l false = (k + 1) + skipN (l.drop (k + 1)) false := by
  rw [h, hc, skipN_blank c _ hb]; omega
theorem skip_hash (l : List UInt8) (k : Nat) (c : UInt8) (hc : l.drop k = c :: l.drop (k + 1)) (h : skipN l false = k + skipN (l.drop k) false) (hb : c.toNat = 35) : skipN l false = (k + lineN (l.drop k)) + skipN (l.drop (k + lineN (l.drop k))) false := by
  have h1 : lineN (l.drop k) = lineN (l.drop (k + 1)) + 1 := by rw [hc, lineN, if_neg (by omega)]
  have h2 : skipN (l.drop k) false = (lineN (l.drop (k + 1)) + 1) + skipN ((l.drop (k + 1)).drop (lineN (l.drop (k + 1)))) false := by rw [hc]; exact skipN_hash c _ hb
  rw [List.drop_drop] at h2
  rw [h, h2, h1, show k + 1 + lineN (l.drop (k + 1)) = k + (lineN (l.drop (k + 1)) + 1) by omega]
  omega
theorem skip_no (l : List UInt8) (k : Nat) (c : UInt8) (hc : l.drop k = c :: l.drop (k + 1)) (h : skipN l false = k + skipN (l.drop k) false) (hb : isBl c = false) (hn : c.toNat ≠ 35) : skipN l false = k := by
  rw [h, hc, skipN_stop c _ hb hn]; omega
theorem drop_cons_of (t : ByteArray) (l : List UInt8) (k : Nat) (ht : t.data.toList = l.drop k) (hp : 0 < t.size) : l.drop k = t[0] :: l.drop (k + 1) := by
  have h1 := drop_byte t 0 hp
  rw [List.drop_zero] at h1
  rw [← List.drop_drop, ← ht]
  exact h1
end
section
open Go.RowKit

/-- the symbols as they lie in memory -/
def symCells : Array Value := (syms.map fun x => Value.string ⟨x.toArray⟩).toArray
theorem symCells_eq : symCells = (syms.map fun x => Value.string ⟨x.toArray⟩).toArray := rfl
/-- a slice of the symbols in a block of its own -/
def SymW (w w' : World) : Prop := w' = w.alloc (.cells symCells 9)
theorem sym_len : syms.length = 33 := rfl
theorem SymW.below {w w' : World} (h : SymW w w') : Below w.heap.size w w' := by unfold SymW at h; rw [h]; exact below_alloc _ _
theorem SymW.cell {w w' : World} (h : SymW w w') (k : Nat) (hk : k < 33) : ∃ y : ByteArray, syms[k]? = some y.data.toList ∧ w'.cell? ⟨w.heap.size, k, none⟩ = some (.string y) := by
  have hk' : k < syms.length := by rw [sym_len]; exact hk
  refine ⟨⟨(syms[k]).toArray⟩, List.getElem?_eq_getElem hk', ?_⟩
  unfold SymW at h
  subst h
  have hb : (w.alloc (.cells symCells 9)).heap[w.heap.size]? = some (.cells symCells 9 (0, 0)) := Array.getElem?_push_size ..
  have hs : symCells[k]? = some (.string ⟨(syms[k]).toArray⟩) := by
    rw [symCells_eq, List.getElem?_toArray, List.getElem?_map, List.getElem?_eq_getElem hk']; rfl
  rw [Lib.cell_of_heap hb, hs]

theorem sym_hit (l : List UInt8) (k : Nat) (x : List UInt8) (hx : syms[k]? = some x) (h : ∀ y ∈ syms.take k, y.isPrefixOf l = false) (hp : x.isPrefixOf l = true) : symOf l = some x := by
  obtain ⟨hk, hx⟩ := List.getElem?_eq_some_iff.1 hx
  unfold symOf
  conv => lhs; rw [← List.take_append_drop k syms, List.drop_eq_getElem_cons hk, hx]
  rw [List.find?_append, List.find?_eq_none.2 (fun y hy => by simp [h y hy]), Option.none_or, List.find?_cons, hp]
theorem sym_none (l : List UInt8) (k : Nat) (hk : 33 ≤ k) (h : ∀ y ∈ syms.take k, y.isPrefixOf l = false) : symOf l = none := by
  rw [List.take_of_length_le (by rw [sym_len]; exact hk)] at h
  exact List.find?_eq_none.2 (fun y hy => by simp [h y hy])
theorem sym_more (l : List UInt8) (k : Nat) (x : List UInt8) (hx : syms[k]? = some x) (h : ∀ y ∈ syms.take k, y.isPrefixOf l = false) (hp : x.isPrefixOf l = false) : ∀ y ∈ syms.take (k + 1), y.isPrefixOf l = false := by
  obtain ⟨hk, hx⟩ := List.getElem?_eq_some_iff.1 hx
  intro y hy
  rw [List.take_succ_eq_append_getElem hk] at hy
  rcases List.mem_append.1 hy with h1 | h1
  · exact h y h1
  · have : y = x := by rw [← hx]; simpa using h1
    subst this; exact hp
/-- what Symbol returns -/
def symRet : Option (List UInt8) → Ending
  | some x => .returned (.tuple #[.string ⟨x.toArray⟩, .bool true])
  | none => .returned (.tuple #[.string ⟨#[]⟩, .bool false])
def rsymRet : Option (List UInt8) → Ending
  | some x => .returned (.string ⟨x.toArray⟩)
  | none => .returned (.string ⟨#[]⟩)

theorem begins_no (s t : ByteArray) (h : s.size < t.size) : t.data.toList.isPrefixOf s.data.toList = false := by
  cases hp : t.data.toList.isPrefixOf s.data.toList
  · rfl
  · have := List.IsPrefix.length_le (List.isPrefixOf_iff_prefix.1 hp)
    rw [len_byte, len_byte] at this; omega
theorem begins_is (s t : ByteArray) : ((s.extract 0 t.size).toList == t.toList) = t.data.toList.isPrefixOf s.data.toList := by
  rw [ByteArray.toList_eq, ByteArray.toList_eq, Lib.extract_data, Bool.eq_iff_iff, beq_iff_eq, List.isPrefixOf_iff_prefix, List.drop_zero, Nat.sub_zero, List.prefix_iff_eq_take, len_byte]
  exact ⟨fun h => h.symm, fun h => h.symm⟩
theorem sym_small (k : Nat) (y : ByteArray) (h : syms[k]? = some y.data.toList) : y.size ≤ 2 := by
  have h2 : ∀ x ∈ syms, x.length ≤ 2 := by decide
  have := h2 _ (List.mem_of_getElem? h)
  rw [len_byte] at this; exact this
end
section
open Go.RowKit

theorem nonempty (s : ByteArray) (h : 0 < s.size) : s.toList.isEmpty = false := by
  rw [ByteArray.toList_eq]
  cases h5 : s.data.toList with
  | nil => have h6 := len_byte s; rw [h5] at h6; simp at h6; omega
  | cons a r => rfl
theorem isempty (s : ByteArray) (h : s.size = 0) : s.toList = [] := by
  rw [ByteArray.toList_eq]; exact List.eq_nil_of_length_eq_zero (by rw [len_byte]; exact h)
theorem first_byte (s : ByteArray) (h : 0 < s.size) : s.data.toList = s[0] :: s.data.toList.drop 1 := by
  have := drop_byte s 0 h; rwa [List.drop_zero] at this
/-- a token as a value -/
def tkv (k : Int) (t : ByteArray) (n : Int) (p : Nat × Nat) : Value := .agg #[.int .i64 k, .string t, .int .i64 n, .int .i64 (p.1 : Int), .int .i64 (p.2 : Int)]
/-- what next returns -/
def nxtRet (r : Except Nat (Tok × Nat)) (p : Nat × Nat) : Ending :=
  match r with
  | .ok (t, n) => .returned (.tuple #[tkv t.k ⟨t.t.toArray⟩ t.n p, .int .i64 (n : Int), .int .i64 0])
  | .error e => .returned (.tuple #[tkv 0 ⟨#[]⟩ 0 p, .int .i64 0, .int .i64 (e : Int)])
theorem nxt_ok {r : Except Nat (Tok × Nat)} {p : Nat × Nat} {k n m : Nat} {t : List UInt8} {u : ByteArray} (h : r = .ok (⟨k, t, n⟩, m)) (hu : u.data.toList = t) : Ending.returned (.tuple #[tkv k u n p, .int .i64 (m : Int), .int .i64 0]) = nxtRet r p := by
  subst hu; rw [h]; rfl
theorem nxt_err {r : Except Nat (Tok × Nat)} {p : Nat × Nat} {e : Nat} (h : r = .error e) : Ending.returned (.tuple #[tkv 0 ⟨#[]⟩ 0 p, .int .i64 0, .int .i64 (e : Int)]) = nxtRet r p := by
  rw [h]; rfl
theorem read_name (c : UInt8) (r : List UInt8) (h : isLet c = true) : readTok (c :: r) = if 40 < spanN isNm (c :: r) then .error 5 else .ok (⟨1, (c :: r).take (spanN isNm (c :: r)), 0⟩, spanN isNm (c :: r)) := by
  simp only [readTok, spanN, h, if_true]
  rfl
theorem ext_upto (s : ByteArray) (n : Nat) : (s.extract 0 n).data.toList = s.data.toList.take n := by rw [Lib.extract_data]; simp
theorem spanN_le (f : UInt8 → Bool) (l : List UInt8) : spanN f l ≤ l.length := by
  unfold spanN
  exact (List.takeWhile_sublist f).length_le
theorem let_not_dig (c : UInt8) (h : isDig c = true) : isLet c = false := by unfold isDig at h; unfold isLet; simp at h ⊢; omega
theorem read_sym (c : UInt8) (r : List UInt8) (h1 : isLet c = false) (h2 : isDig c = false) (h3 : (c.toNat : Int) ≠ 34) : readTok (c :: r) = match symOf (c :: r) with | some x => .ok (⟨4, x, 0⟩, x.length) | none => .error 3 := by
  simp only [readTok, h1, h2, Bool.false_eq_true, if_false, if_neg (show ¬ c.toNat = 34 by omega)]
  rfl

theorem bset0 {w a : World} (h : Below w.heap.size w a) (o : Nat) (v : Value) : Below w.heap.size w (a.setCell ⟨w.heap.size, o, none⟩ v) := h.setCell (Nat.le_refl _) v
theorem bset1 {w a : World} (h : Below w.heap.size w a) (o : Nat) (v : Value) : Below w.heap.size w (a.setCell ⟨w.heap.size + 1, o, none⟩ v) := h.setCell (Nat.le_succ _) v
end
section
open Go.RowKit

theorem foldl_ge (r : List UInt8) : ∀ acc : Nat, acc ≤ r.foldl (fun n c => 10 * n + (c.toNat - 48)) acc := by
  induction r with
  | nil => intro acc; exact Nat.le_refl _
  | cons c r ih => intro acc; exact Nat.le_trans (show acc ≤ 10 * acc + (c.toNat - 48) by omega) (ih _)
theorem parse_dig (r : List UInt8) : ∀ acc : Nat, acc < 18446744073709551616 → (∀ c ∈ r, isDig c = true) →
    (r.foldl (fun n c => 10 * n + (c.toNat - 48)) acc < 18446744073709551616 → Lib.parseUint10 acc r = .ok (r.foldl (fun n c => 10 * n + (c.toNat - 48)) acc)) ∧
    (18446744073709551616 ≤ r.foldl (fun n c => 10 * n + (c.toNat - 48)) acc → Lib.parseUint10 acc r = .range) := by
  induction r with
  | nil => intro acc ha _; exact ⟨fun _ => rfl, fun h => absurd h (by simp; omega)⟩
  | cons c r ih =>
    intro acc ha hd
    have hc : 48 ≤ c.toNat ∧ c.toNat ≤ 57 := by have := hd c (List.mem_cons_self ..); unfold isDig at this; simpa using this
    have hr : ∀ x ∈ r, isDig x = true := fun x hx => hd x (List.mem_cons_of_mem _ hx)
    have hge := foldl_ge r (10 * acc + (c.toNat - 48))
    simp only [List.foldl_cons, Lib.parseUint10]
    rw [if_pos hc]
    by_cases h1 : 1844674407370955162 ≤ acc
    · rw [if_pos h1]
      exact ⟨fun h => absurd h (by omega), fun _ => rfl⟩
    · rw [if_neg h1]
      by_cases h2 : 18446744073709551616 ≤ acc * 10 + (c.toNat - 48)
      · rw [if_pos h2]
        exact ⟨fun h => absurd h (by omega), fun _ => rfl⟩
      · rw [if_neg h2, show acc * 10 + (c.toNat - 48) = 10 * acc + (c.toNat - 48) by omega]
        exact ih _ (by omega) hr
theorem atoi_dig (l : List UInt8) (hne : l ≠ []) (hd : ∀ c ∈ l, isDig c = true) : (dval l < 9223372036854775808 → Lib.atoiAll l = .ok (dval l : Int)) ∧ (9223372036854775808 ≤ dval l → Lib.atoiAll l = .range) := by
  cases l with
  | nil => exact absurd rfl hne
  | cons c r =>
    have hc : 48 ≤ c.toNat ∧ c.toNat ≤ 57 := by have := hd c (List.mem_cons_self ..); unfold isDig at this; simpa using this
    obtain ⟨p1, p2⟩ := parse_dig (c :: r) 0 (by omega) hd
    unfold Lib.atoiAll
    simp only
    rw [if_neg (by omega)]
    have hm : Lib.parseMag (c :: r) = Lib.parseUint10 0 (c :: r) := by unfold Lib.parseMag; rw [if_neg (by simp)]
    rw [hm]
    show (dval (c :: r) < _ → _) ∧ (_ ≤ dval (c :: r) → _)
    change (dval (c :: r) < _ → _) at p1
    change (_ ≤ dval (c :: r) → _) at p2
    constructor
    · intro h
      rw [p1 (by omega)]
      simp only
      have h5 : List.foldl (fun n (c : UInt8) => 10 * n + (c.toNat - 48)) 0 (c :: r) = dval (c :: r) := rfl
      rw [h5, if_neg (by omega), if_neg (by omega), if_neg (by omega)]
    · intro h
      by_cases h6 : dval (c :: r) < 18446744073709551616
      · rw [p1 h6]
        simp only
        have h5 : List.foldl (fun n (c : UInt8) => 10 * n + (c.toNat - 48)) 0 (c :: r) = dval (c :: r) := rfl
        rw [h5, if_pos (by omega)]
      · rw [p2 (by omega)]
theorem ext_size (s : ByteArray) (n : Nat) (h : n ≤ s.size) : (s.extract 0 n).size = n := by rw [← len_byte, ext_upto, List.length_take, len_byte]; omega
theorem span_dig (l : List UInt8) : ∀ c ∈ l.take (spanN isDig l), isDig c = true := by
  have h : l.take (spanN isDig l) = l.takeWhile isDig := by
    unfold spanN
    exact (List.prefix_iff_eq_take.1 (List.takeWhile_prefix isDig)).symm
  rw [h]
  intro c hc
  exact List.all_eq_true.1 (List.all_takeWhile) c hc
theorem span_pos (c : UInt8) (r : List UInt8) (h : isDig c = true) : 1 ≤ spanN isDig (c :: r) := by
  unfold spanN; rw [List.takeWhile_cons, h]; simp
/-- a byte that may not follow a number -/
def tailB : List UInt8 → Bool
  | [] => false
  | d :: _ => isLet d || decide (d.toNat = 95)
theorem read_num (c : UInt8) (r : List UInt8) (h : isDig c = true) : readTok (c :: r) = if tailB ((c :: r).drop (spanN isDig (c :: r))) then .error 3 else if 4503599627370496 < dval ((c :: r).take (spanN isDig (c :: r))) then .error 6 else .ok (⟨2, [], dval ((c :: r).take (spanN isDig (c :: r)))⟩, spanN isDig (c :: r)) := by
  simp only [readTok, spanN, let_not_dig c h, h, Bool.false_eq_true, if_false, if_true]
  rfl
/-- the library's error of a number out of range is laid -/
def PR (w : World) : Prop := ∃ tp q, w.var? Tryz.prog "strconv.ErrRange" = some #[.iface tp q]
theorem gRan : Tryz.prog.globalNamed "strconv.ErrRange" = some 3 := by kernel_rfl
theorem var_lt {w : World} {n : String} {g : Nat} {cs : Array Value} (hg : Tryz.prog.globalNamed n = some g) (h : w.var? Tryz.prog n = some cs) : g < w.heap.size := by
  unfold World.var? at h
  rw [hg] at h
  rcases Nat.lt_or_ge g w.heap.size with h2 | h2
  · exact h2
  · simp [Array.getElem?_eq_none h2] at h
theorem PR.below {w w' : World} (h : PR w) (hb : Below w.heap.size w w') : PR w' := by
  obtain ⟨tp, q, h1⟩ := h
  exact ⟨tp, q, var?_below hb gRan (var_lt gRan h1) h1⟩
theorem atoi_good (s : ByteArray) (v : Int) (w : World) (hs : s.size ≤ 281474976710656) (h : Lib.atoiAll s.data.toList = .ok v) :
    Calls Tryz.prog 77 #[.string s] w fun e w' => e = .returned (.tuple #[.int .i64 v, .nilIface]) ∧ Below w.heap.size w w' := by
  refine (Tryz.strconv_Atoi_ok s (by omega) v h w).mono fun e w' ⟨h1, h2⟩ => ⟨h1, ?_⟩
  rcases h2 with rfl | ⟨t, rfl⟩
  · exact Below.refl _ _
  · exact Lib.bytesWorld_below w _ _
/-- Atoi says: out of range -/
def AtoiR (w : World) (e : Ending) (w' : World) : Prop := ∃ (n : Int) (N : Nat), e = .returned (.tuple #[.int .i64 n, .iface 141 (.pointer (some ⟨N, 0, none⟩))]) ∧ Below w.heap.size w w'
theorem atoi_range (s : ByteArray) (w : World) (hs : s.size ≤ 281474976710656) (hp : PR w) (h : Lib.atoiAll s.data.toList = .range) :
    Calls Tryz.prog 77 #[.string s] w (AtoiR w) := by
  obtain ⟨tp, q, h1⟩ := hp
  exact (Tryz.strconv_Atoi_range_var s hs h tp q w h1).mono fun e w' ⟨N, h2, _, _, h3⟩ => ⟨_, N, h2, h3⟩
end
section
open Go.RowKit

theorem symRet_some (y : ByteArray) : symRet (some y.data.toList) = .returned (.tuple #[.string y, .bool true]) := rfl
theorem symRet_none : symRet none = .returned (.tuple #[.string ⟨#[]⟩, .bool false]) := rfl
end
section
open Go.RowKit
end
section
open Go.RowKit

theorem lit_code (f : Nat) : ∀ (l : List UInt8), l.length ≤ f → ∀ k, lit l = .error k → k = 3 ∨ k = 4 := by
  induction f with
  | zero =>
    intro l hl k h
    have : l = [] := List.eq_nil_of_length_eq_zero (by omega)
    subst this
    rw [lit.eq_def] at h; cases h; exact .inr rfl
  | succ f ih =>
    intro l hl k h
    cases l with
    | nil => rw [lit.eq_def] at h; cases h; exact .inr rfl
    | cons c l =>
      rw [lit.eq_def] at h
      simp only at h
      split at h
      · cases h
      · split at h
        · cases h; exact .inl rfl
        · split at h
          · cases l with
            | nil => simp only at h; cases h; exact .inr rfl
            | cons d m =>
              simp only at h
              split at h
              · cases hm : lit m with
                | error e => rw [hm] at h; simp only [Except.error.injEq] at h; subst h; exact ih m (by simp at hl; omega) _ hm
                | ok x => rw [hm] at h; cases h
              · cases h; exact .inl rfl
          · cases hm : lit l with
            | error e => rw [hm] at h; simp only [Except.error.injEq] at h; subst h; exact ih l (by simp at hl; omega) _ hm
            | ok x => rw [hm] at h; cases h
theorem q_not (c : UInt8) (h : (c.toNat : Int) = 34) : isLet c = false ∧ isDig c = false := by
  unfold isLet isDig; simp; omega
theorem read_lit (c : UInt8) (r : List UInt8) (h : (c.toNat : Int) = 34) : readTok (c :: r) = match lit r with | .ok (t, n) => .ok (⟨3, t, 0⟩, n + 1) | .error e => .error e := by
  simp only [readTok, (q_not c h).1, (q_not c h).2, Bool.false_eq_true, if_false, if_pos (show c.toNat = 34 by omega)]
  rfl
end
section
open Go.RowKit

theorem advs_le1 (l : List UInt8) : ∀ p : Nat × Nat, 1 ≤ p.2 → 1 ≤ (advs p l).2 ∧ (advs p l).2 ≤ p.2 + l.length ∧ (advs p l).1 ≤ p.1 + l.length := by
  induction l with
  | nil => intro p h; exact ⟨h, Nat.le_refl _, Nat.le_refl _⟩
  | cons c l ih =>
    intro p h
    show 1 ≤ (advs (adv p c) l).2 ∧ (advs (adv p c) l).2 ≤ _ ∧ (advs (adv p c) l).1 ≤ _
    simp only [List.length_cons]
    by_cases hc : c.toNat = 10
    · have e : adv p c = (p.1 + 1, 1) := by simp [adv, hc]
      have h0 := ih (adv p c) (by rw [e]; exact Nat.le_refl _)
      rw [e] at h0 ⊢
      simp only at h0
      omega
    · have e : adv p c = (p.1, p.2 + 1) := by simp [adv, hc]
      have h0 := ih (adv p c) (by rw [e]; simp)
      rw [e] at h0 ⊢
      simp only at h0
      omega
theorem span_pos_nm (c : UInt8) (r : List UInt8) (h : isLet c = true) : 1 ≤ spanN isNm (c :: r) := by
  unfold spanN; rw [List.takeWhile_cons, nm_let c h]; simp
theorem sym_in (l x : List UInt8) (h : symOf l = some x) : 1 ≤ x.length ∧ x.length ≤ l.length := by
  unfold symOf at h
  have h1 := List.mem_of_find?_eq_some h
  have h2 := List.find?_some h
  have h3 : ∀ y ∈ syms, 1 ≤ y.length := by decide
  exact ⟨h3 x h1, List.IsPrefix.length_le (List.isPrefixOf_iff_prefix.1 h2)⟩
theorem readTok_facts (l : List UInt8) (t : Tok) (n : Nat) (h : readTok l = .ok (t, n)) : 1 ≤ n ∧ n ≤ l.length ∧ 1 ≤ t.k ∧ t.k ≤ 4 := by
  cases l with
  | nil => simp [readTok] at h
  | cons c r =>
    cases hL : isLet c
    · cases hD : isDig c
      · by_cases h34 : (c.toNat : Int) = 34
        · rw [read_lit c r h34] at h
          cases hm : lit r with
          | error e => rw [hm] at h; cases h
          | ok x =>
            obtain ⟨t', n'⟩ := x
            rw [hm] at h
            simp only [Except.ok.injEq, Prod.mk.injEq] at h
            obtain ⟨rfl, rfl⟩ := h
            obtain ⟨g1, g2, _⟩ := lit_facts _ _ (Nat.le_refl _) _ _ hm
            exact ⟨by omega, by simp; omega, by simp, by simp⟩
        · rw [read_sym c r hL hD h34] at h
          cases hs : symOf (c :: r) with
          | none => rw [hs] at h; cases h
          | some x =>
            rw [hs] at h
            simp only [Except.ok.injEq, Prod.mk.injEq] at h
            obtain ⟨rfl, rfl⟩ := h
            have := sym_in _ _ hs
            exact ⟨this.1, this.2, by simp, by simp⟩
      · rw [read_num c r hD] at h
        split at h
        · cases h
        · split at h
          · cases h
          · simp only [Except.ok.injEq, Prod.mk.injEq] at h
            obtain ⟨rfl, rfl⟩ := h
            exact ⟨span_pos c r hD, spanN_le _ _, by simp, by simp⟩
    · rw [read_name c r hL] at h
      split at h
      · cases h
      · simp only [Except.ok.injEq, Prod.mk.injEq] at h
        obtain ⟨rfl, rfl⟩ := h
        exact ⟨span_pos_nm c r hL, spanN_le _ _, by simp, by simp⟩

/-- a token's cells -/
def tkCells (x : Tk) : List Value := [.int .i64 (x.1.k : Int), .string ⟨x.1.t.toArray⟩, .int .i64 (x.1.n : Int), .int .i64 (x.2.1 : Int), .int .i64 (x.2.2 : Int)]
/-- the tokens' cells -/
def tkRow (L : List Tk) : List Value := L.flatMap tkCells
theorem tkRow_snoc (L : List Tk) (x : Tk) : tkRow (L ++ [x]) = tkRow L ++ tkCells x := by unfold tkRow; simp
theorem PR.grown {w w' : World} {b : Nat} (h : PR w) (hg : w.grownBy w' (some b)) (hb : 3 < b) : PR w' := by
  obtain ⟨tp, q, h1⟩ := h
  have hl := var_lt gRan h1
  refine ⟨tp, q, ?_⟩
  have hk := hg.block _ hl (fun e => by have := Option.some.inj e; omega)
  simpa [World.var?, gRan, hk] using h1
end
end Go.Proofs.YtbbdgncjpbfooaaGreatDoor
