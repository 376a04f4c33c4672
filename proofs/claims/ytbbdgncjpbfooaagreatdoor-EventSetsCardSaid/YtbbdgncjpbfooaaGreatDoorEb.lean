/- Values and events: which are valid, their texts, that texts are read back: plain Lean, no program in sight. -/
import Derived.Test.YtbbdgncjpbfooaaGreatDoorEa
import Derived.Test.YtbbdgncjpbfooaaGreatDoorMa
import Derived.Lib.ItoaNum
import Derived.Lib.ItoaLen
namespace Go.Proofs.YtbbdgncjpbfooaaGreatDoor

structure Vl where
  k : Int
  n : Int
  s : ByteArray
/-- a value is valid -/
def Vl.ok (v : Vl) : Bool :=
  if v.k = 1 then decide ((v.n = 0 ∨ v.n = 1) ∧ v.s.data.toList = [])
  else if v.k = 2 then decide (-4503599627370496 ≤ v.n ∧ v.n ≤ 4503599627370496 ∧ v.s.data.toList = [])
  else if v.k = 3 then decide (v.n = 0) && (decide (v.s.size ≤ 200) && v.s.data.toList.all isPr)
  else false
/-- the text of a valid value -/
def Vl.tx (v : Vl) : List UInt8 :=
  if v.k = 1 then (if v.n = 1 then [116, 114, 117, 101] else [102, 97, 108, 115, 101])
  else if v.k = 2 then Lib.itoa v.n else quoteL v.s.data.toList
structure Fd where
  nm : ByteArray
  v : Vl
structure Ev where
  c : ByteArray
  a : ByteArray
  r : ByteArray
  life : Int
  time : Int
  d : List Fd
/-- field number i is as it must be -/
def fdAt (L : List Fd) (i : Nat) : Bool := match L[i]? with
  | some f => isNameB f.nm.data.toList && (f.v.ok && (match i with | 0 => true | j + 1 => match L[j]? with | some g => Op.bytesLess g.nm.toList f.nm.toList | none => true))
  | none => true
def fdTo (L : List Fd) (k : Nat) : Bool := (List.range k).all (fdAt L)
theorem fdTo_zero (L : List Fd) : fdTo L 0 = true := rfl
theorem fdTo_succ (L : List Fd) (k : Nat) : fdTo L (k + 1) = (fdTo L k && fdAt L k) := by
  unfold fdTo; rw [List.range_succ, List.all_append]; simp
theorem fdTo_le (L : List Fd) (k m : Nat) (h : k ≤ m) (hm : fdTo L m = true) : fdTo L k = true := by
  unfold fdTo at *
  rw [List.all_eq_true] at *
  intro i hi
  exact hm i (by rw [List.mem_range] at *; omega)
def fdsB (L : List Fd) : Bool := fdTo L L.length
theorem fdsB_no (L : List Fd) (k : Nat) (h : k < L.length) (hk : fdAt L k = false) : fdsB L = false := by
  cases hb : fdsB L with
  | false => rfl
  | true =>
    have := fdTo_le L (k + 1) L.length (by omega) hb
    rw [fdTo_succ, hk] at this; simp at this
theorem fdAt_zero (L : List Fd) (h : 0 < L.length) : fdAt L 0 = (isNameB L[0].nm.data.toList && L[0].v.ok) := by
  unfold fdAt; rw [List.getElem?_eq_getElem h]; simp
theorem fdAt_succ (L : List Fd) (j : Nat) (h : j + 1 < L.length) : fdAt L (j + 1) = (isNameB L[j + 1].nm.data.toList && (L[j + 1].v.ok && Op.bytesLess L[j].nm.toList L[j + 1].nm.toList)) := by
  unfold fdAt; rw [List.getElem?_eq_getElem h]; simp only; rw [List.getElem?_eq_getElem (by omega : j < L.length)]
theorem fdsB_at (L : List Fd) (k : Nat) (h : k < L.length) (hb : fdsB L = true) : isNameB L[k].nm.data.toList = true ∧ L[k].v.ok = true := by
  have := fdTo_le L (k + 1) L.length (by omega) hb
  rw [fdTo_succ, Bool.and_eq_true] at this
  have h2 := this.2
  unfold fdAt at h2
  rw [List.getElem?_eq_getElem h] at h2
  simp only [Bool.and_eq_true] at h2
  exact ⟨h2.1, h2.2.1⟩
/-- what is asked of an event besides its fields -/
def Ev.head (e : Ev) : Bool := isNameB e.c.data.toList && (isNameB e.a.data.toList && ((e.r.data.toList.isEmpty || isNameB e.r.data.toList) && decide (1 ≤ e.life ∧ e.life ≤ 6 ∧ 0 ≤ e.time ∧ e.time ≤ 1099511627776 ∧ e.d.length ≤ 8)))
/-- an event is valid -/
def Ev.ok (e : Ev) : Bool := e.head && fdsB e.d
/-- the word of a step -/
def lifeW (n : Int) : List UInt8 :=
  if n = 1 then [115, 99, 104, 101, 100, 117, 108, 101] else if n = 2 then [115, 116, 97, 114, 116] else if n = 3 then [115, 117, 115, 112, 101, 110, 100]
  else if n = 4 then [114, 101, 115, 117, 109, 101] else if n = 5 then [99, 111, 109, 112, 108, 101, 116, 101] else [97, 98, 111, 114, 116]
/-- a field as a word -/
def Fd.tx (f : Fd) : List UInt8 := f.nm.data.toList ++ 61 :: f.v.tx
/-- the words of an event -/
def Ev.ws (e : Ev) : List (List UInt8) := [e.c.data.toList, e.a.data.toList, e.r.data.toList, lifeW e.life, Lib.itoa e.time] ++ e.d.map Fd.tx
/-- its text -/
def Ev.tx (e : Ev) : List UInt8 := lineL e.ws

theorem nm_pr (c : UInt8) (h : isNm c = true) : isPr c = true := by
  unfold isNm isLet isDig at h; unfold isPr
  simp at h ⊢; omega
theorem name_pr (l : List UInt8) (h : isNameB l = true) : l.all isPr = true ∧ l.length ≤ 40 ∧ l ≠ [] ∧ (∀ c ∈ l, isNm c = true) := by
  cases l with
  | nil => simp [isNameB] at h
  | cons c l =>
    simp only [isNameB, Bool.and_eq_true, decide_eq_true_eq] at h
    have ha := List.all_eq_true.1 h.2
    exact ⟨List.all_eq_true.2 fun x hx => nm_pr x (ha x hx), h.1.1, by simp, ha⟩
theorem dec_pr (u : Nat) : (Lib.decDigits u).all isPr = true := by
  induction u using Nat.strongRecOn with
  | _ u ih =>
    have hd : ∀ m, m < 10 → isPr (UInt8.ofNat (48 + m)) = true := fun m hm => by
      unfold isPr; rw [UInt8.toNat_ofNat']; simp; omega
    by_cases h : u < 10
    · rw [Lib.decDigits_one h, List.all_cons, hd u h]; rfl
    · rw [Lib.decDigits, dif_neg h, List.all_append, ih (u / 10) (by omega), List.all_cons, hd (u % 10) (by omega)]; rfl
theorem itoa_pr (n : Int) : (Lib.itoa n).all isPr = true := by
  by_cases h : 0 ≤ n
  · obtain ⟨m, rfl⟩ := Int.eq_ofNat_of_zero_le h
    rw [Lib.itoa_nonneg]; exact dec_pr m
  · rw [Lib.itoa, if_pos (by omega), List.all_cons, dec_pr]; decide
theorem val_cases (v : Vl) (h : v.ok = true) : (v.k = 1 ∧ (v.n = 0 ∨ v.n = 1) ∧ v.s.data.toList = []) ∨ (v.k = 2 ∧ -4503599627370496 ≤ v.n ∧ v.n ≤ 4503599627370496 ∧ v.s.data.toList = []) ∨ (v.k = 3 ∧ v.n = 0 ∧ v.s.size ≤ 200 ∧ v.s.data.toList.all isPr = true) := by
  unfold Vl.ok at h
  split at h
  · rename_i hk; have := of_decide_eq_true h; exact .inl ⟨hk, this.1, this.2⟩
  · split at h
    · rename_i hk; have := of_decide_eq_true h; exact .inr (.inl ⟨hk, this⟩)
    · split at h
      · rename_i hk
        simp only [Bool.and_eq_true, decide_eq_true_eq] at h
        exact .inr (.inr ⟨hk, h⟩)
      · cases h
theorem val_pr (v : Vl) (h : v.ok = true) : v.tx.all isPr = true ∧ v.tx.length ≤ 402 := by
  rcases val_cases v h with ⟨hk, hn, _⟩ | ⟨hk, h1, h2, _⟩ | ⟨hk, hn, hs, hp⟩
  · unfold Vl.tx; rw [if_pos hk]; split <;> decide
  · unfold Vl.tx; rw [if_neg (by omega), if_pos hk]
    exact ⟨itoa_pr _, by have := Lib.itoa_length_le v.n (by omega) (by omega); omega⟩
  · unfold Vl.tx; rw [if_neg (by omega), if_neg (by omega)]
    refine ⟨quote_pr _ hp, ?_⟩
    have := escL_len v.s.data.toList
    have h3 : v.s.data.toList.length = v.s.size := by simp
    simp [quoteL]; omega
theorem part_len (t : List UInt8) : (partL t).length ≤ 2 * t.length + 2 := by
  unfold partL
  split
  · omega
  · have := escL_len t; simp [quoteL]; omega
theorem life_pr (n : Int) : (lifeW n).all isPr = true ∧ (lifeW n).length ≤ 8 := by
  unfold lifeW
  split
  · decide
  · split
    · decide
    · split
      · decide
      · split
        · decide
        · split <;> decide
theorem line_len (L : List (List UInt8)) (m : Nat) (h : ∀ t ∈ L, t.length ≤ m) : (lineL L).length ≤ L.length * (2 * m + 3) := by
  induction L with
  | nil => simp [lineL]
  | cons x L ih =>
    have hx := part_len x
    have hm := h x (by simp)
    have hL := ih (fun t ht => h t (by simp [ht]))
    cases L with
    | nil => rw [lineL_one]; simp; omega
    | cons y L =>
      rw [lineL_cons]
      simp only [List.length_append, List.length_cons] at hL ⊢
      rw [Nat.add_mul] at hL ⊢
      rw [Nat.add_mul]
      omega
/-- the words of a valid event -/
theorem ws_ok (e : Ev) (h : e.ok = true) : (∀ t ∈ e.ws, t.all isPr = true) ∧ (∀ t ∈ e.ws, t.length ≤ 443) ∧ e.ws.length = 5 + e.d.length ∧ e.d.length ≤ 8 ∧ (lineL e.ws).length ≤ 16384 := by
  unfold Ev.ok Ev.head at h
  simp only [Bool.and_eq_true, Bool.or_eq_true, decide_eq_true_eq] at h
  obtain ⟨⟨h1, h2, h3, h4, h5, h6, h7, h8⟩, hf⟩ := h
  have n1 := name_pr _ h1
  have n2 := name_pr _ h2
  have n3 : e.r.data.toList.all isPr = true ∧ e.r.data.toList.length ≤ 40 := by
    rcases h3 with h3 | h3
    · have : e.r.data.toList = [] := List.isEmpty_iff.1 h3
      rw [this]; simp
    · exact ⟨(name_pr _ h3).1, (name_pr _ h3).2.1⟩
  have fl : ∀ f ∈ e.d, (Fd.tx f).all isPr = true ∧ (Fd.tx f).length ≤ 443 := by
    intro f hf'
    obtain ⟨i, hi, rfl⟩ := List.getElem_of_mem hf'
    obtain ⟨g1, g2⟩ := fdsB_at e.d i hi hf
    have g3 := name_pr _ g1
    have g4 := val_pr _ g2
    unfold Fd.tx
    rw [List.all_append, g3.1, List.all_cons, g4.1]
    refine ⟨by decide, ?_⟩
    simp only [List.length_append, List.length_cons]
    omega
  have hall : ∀ t ∈ e.ws, t.all isPr = true ∧ t.length ≤ 443 := by
    intro t ht
    unfold Ev.ws at ht
    rcases List.mem_append.1 ht with ht | ht
    · simp only [List.mem_cons, List.mem_nil_iff, or_false] at ht
      rcases ht with rfl | rfl | rfl | rfl | rfl
      · exact ⟨n1.1, by omega⟩
      · exact ⟨n2.1, by omega⟩
      · exact ⟨n3.1, by omega⟩
      · exact ⟨(life_pr _).1, by have := (life_pr e.life).2; omega⟩
      · exact ⟨itoa_pr _, by have := Lib.itoa_length_le e.time (by omega) (by omega); omega⟩
    · obtain ⟨f, hf', rfl⟩ := List.mem_map.1 ht
      exact fl f hf'
  have hlen : e.ws.length = 5 + e.d.length := by unfold Ev.ws; simp; omega
  have hl := line_len e.ws 443 (fun t ht => (hall t ht).2)
  refine ⟨fun t ht => (hall t ht).1, fun t ht => (hall t ht).2, hlen, h8, ?_⟩
  have : e.ws.length * (2 * 443 + 3) ≤ 13 * 889 := Nat.mul_le_mul (by omega) (by omega)
  omega
/-- the text of a valid event is read as its words -/
theorem words_ev (e : Ev) (h : e.ok = true) : words e.tx = .ok e.ws := by
  obtain ⟨h1, _, h3, h4, h5⟩ := ws_ok e h
  exact words_line e.ws h1 h5 (by omega)
end Go.Proofs.YtbbdgncjpbfooaaGreatDoor
