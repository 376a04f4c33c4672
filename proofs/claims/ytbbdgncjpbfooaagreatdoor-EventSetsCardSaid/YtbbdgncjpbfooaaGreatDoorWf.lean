/- Fields by name: plain Lean, no program in sight. event.find: what a call returns. event.Get and casebookref11.Get: what a call returns. slices.Clone and slices.Insert at fields: what a call returns. event.With: what a call returns. casebookref11.With: what a call returns. -/
import Derived.Test.YtbbdgncjpbfooaaGreatDoorEt
import Derived.Test.YtbbdgncjpbfooaaGreatDoorEq
import Derived.Test.YtbbdgncjpbfooaaGreatDoorVb
import Derived.Test.YtbbdgncjpbfooaaGreatDoorVm
import Derived.Test.YtbbdgncjpbfooaaGreatDoorMa
import Derived.Test.YtbbdgncjpbfooaaGreatDoorEh
import Derived.Lib.Bytealg
import Derived.Lib.Overlaps
import Derived.Lib.LazyBuf
import Derived.Lib.AppendZerosOnto
import Derived.Laws.NewBlocks
import Derived.Laws.CopyRow
import Derived.Deep.RegionLaw
namespace Go.Proofs.YtbbdgncjpbfooaaGreatDoor
section
theorem bl_irr : ∀ a : List UInt8, Op.bytesLess a a = false
  | [] => rfl
  | c :: l => by simp [Op.bytesLess, bl_irr l, UInt8.lt_irrefl]
theorem bl_trans : ∀ a b c : List UInt8, Op.bytesLess a b = true → Op.bytesLess b c = true → Op.bytesLess a c = true
  | _, [], _, h, _ => by cases ‹List UInt8› <;> simp [Op.bytesLess] at h
  | _, _ :: _, [], _, h => by simp [Op.bytesLess] at h
  | [], _ :: _, _ :: _, _, _ => rfl
  | x :: a, y :: b, z :: c, h, k => by
    simp only [Op.bytesLess, Bool.or_eq_true, decide_eq_true_eq, Bool.and_eq_true, beq_iff_eq] at h k ⊢
    rcases h with h | ⟨rfl, h⟩
    · rcases k with k | ⟨rfl, k⟩
      · exact .inl (UInt8.lt_trans h k)
      · exact .inl h
    · rcases k with k | ⟨rfl, k⟩
      · exact .inl k
      · exact .inr ⟨rfl, bl_trans a b c h k⟩
theorem bl_tri : ∀ a b : List UInt8, Op.bytesLess a b = false → Op.bytesLess b a = false → a = b
  | [], [], _, _ => rfl
  | [], _ :: _, h, _ => by simp [Op.bytesLess] at h
  | _ :: _, [], _, h => by simp [Op.bytesLess] at h
  | x :: a, y :: b, h, k => by
    simp only [Op.bytesLess, Bool.or_eq_false_iff, decide_eq_false_iff_not, Bool.and_eq_false_iff, beq_eq_false_iff_ne] at h k
    have e : x = y := by
      rcases UInt8.lt_or_lt_of_ne (a := x) (b := y) |> fun f => Classical.em (x = y) with e | e
      · exact e
      · rcases UInt8.lt_or_lt_of_ne e with g | g
        · exact absurd g h.1
        · exact absurd g k.1
    subst e
    rw [bl_tri a b (h.2.resolve_left (fun h => h rfl)) (k.2.resolve_left (fun h => h rfl))]
theorem cmp_bl : ∀ a b : List UInt8, Lib.compareBytes a b = if Op.bytesLess a b = true then -1 else if a = b then 0 else 1
  | [], [] => rfl
  | [], _ :: _ => rfl
  | _ :: _, [] => rfl
  | x :: a, y :: b => by
    have ih := cmp_bl a b
    by_cases h1 : x < y
    · simp [Lib.compareBytes, Op.bytesLess, h1]
    · by_cases h2 : y < x
      · have h3 : ¬ x = y := fun e => by subst e; exact UInt8.lt_irrefl x h2
        simp [Lib.compareBytes, Op.bytesLess, h1, h2, h3]
      · have h3 : x = y := by
          rcases Classical.em (x = y) with e | e
          · exact e
          · rcases UInt8.lt_or_lt_of_ne e with g | g
            · exact absurd g h1
            · exact absurd g h2
        subst h3
        simp [Lib.compareBytes, Op.bytesLess, h1, ih]
/-- one name lies ahead of another -/
def ltN (a b : ByteArray) : Bool := Op.bytesLess a.toList b.toList
theorem ltN_irr (a : ByteArray) : ltN a a = false := bl_irr _
theorem ltN_trans {a b c : ByteArray} (h : ltN a b = true) (k : ltN b c = true) : ltN a c = true := bl_trans _ _ _ h k
theorem ltN_tri {a b : ByteArray} (h : ltN a b = false) (k : ltN b a = false) : a = b := toList_inj a b (bl_tri _ _ h k)
theorem ltN_ne {a b : ByteArray} (h : ltN a b = true) : a ≠ b := fun e => by subst e; rw [ltN_irr] at h; cases h
theorem ltN_asymm {a b : ByteArray} (h : ltN a b = true) : ltN b a = false := by
  cases k : ltN b a with
  | false => rfl
  | true => have := ltN_trans h k; rw [ltN_irr] at this; cases this
theorem cmpN (a b : ByteArray) : Lib.compareBytes a.data.toList b.data.toList = if ltN a b = true then -1 else if a = b then 0 else 1 := by
  rw [cmp_bl, ← ByteArray.toList_eq, ← ByteArray.toList_eq]
  unfold ltN
  by_cases h : a = b
  · subst h; simp
  · rw [if_neg h, if_neg (fun e => h (toList_inj a b e))]
/-- names that ascend -/
def SortF (L : List Fd) : Prop := ∀ i j (_ : i < j) (hj : j < L.length), ltN L[i].nm L[j].nm = true
theorem sort_of (L : List Fd) (h : fdsB L = true) : SortF L := by
  have step : ∀ j (hj : j + 1 < L.length), ltN L[j].nm L[j + 1].nm = true := by
    intro j hj
    have h1 := fdTo_le L (j + 1 + 1) L.length (by omega) h
    rw [fdTo_succ, Bool.and_eq_true] at h1
    have h2 := h1.2
    rw [fdAt_succ L j hj] at h2
    simp only [Bool.and_eq_true] at h2
    exact h2.2.2
  intro i j hij hj
  induction j with
  | zero => omega
  | succ j ih =>
    by_cases e : i = j
    · subst e; exact step i hj
    · exact ltN_trans (ih (by omega) (by omega)) (step j hj)
theorem fds_of (L : List Fd) (hs : SortF L) (hv : ∀ f ∈ L, isNameB f.nm.data.toList = true ∧ f.v.ok = true) : fdsB L = true := by
  unfold fdsB fdTo
  rw [List.all_eq_true]
  intro i hi
  rw [List.mem_range] at hi
  obtain ⟨h1, h2⟩ := hv L[i] (List.getElem_mem hi)
  cases i with
  | zero => rw [fdAt_zero L hi, h1, h2]; rfl
  | succ j =>
    rw [fdAt_succ L j hi, h1, h2]
    have := hs j (j + 1) (by omega) hi
    unfold ltN at this
    rw [this]; rfl
/-- where a name stands, or would stand -/
def posF (L : List Fd) (nm : ByteArray) : Nat := (L.takeWhile fun f => ltN f.nm nm).length
theorem posF_le (L : List Fd) (nm : ByteArray) : posF L nm ≤ L.length := (List.takeWhile_sublist _).length_le
theorem posF_lt : ∀ (L : List Fd) (nm : ByteArray) (k : Nat) (_ : k < posF L nm) (hk : k < L.length), ltN L[k].nm nm = true
  | [], _, _, h, _ => by simp [posF] at h
  | f :: L, nm, k, h, hk => by
    unfold posF at h
    rw [List.takeWhile_cons] at h
    split at h
    · rename_i hf
      cases k with
      | zero => exact hf
      | succ k => exact posF_lt L nm k (by unfold posF; simpa using h) (by simpa using hk)
    · simp at h
theorem posF_at : ∀ (L : List Fd) (nm : ByteArray) (_ : posF L nm < L.length), ltN L[posF L nm].nm nm = false
  | [], _, h => by simp at h
  | f :: L, nm, h => by
    cases hf : ltN f.nm nm with
    | true =>
      have e : posF (f :: L) nm = posF L nm + 1 := by unfold posF; rw [List.takeWhile_cons, if_pos hf]; rfl
      have h' : posF L nm < L.length := by rw [e] at h; simpa using h
      have := posF_at L nm h'
      simp only [e, List.getElem_cons_succ]; exact this
    | false =>
      have e : posF (f :: L) nm = 0 := by unfold posF; rw [List.takeWhile_cons, hf]; rfl
      simp only [e, List.getElem_cons_zero]; exact hf
theorem posF_eq (L : List Fd) (nm : ByteArray) (i : Nat) (hi : i ≤ L.length) (h1 : ∀ k (_ : k < i) (hk : k < L.length), ltN L[k].nm nm = true) (h2 : ∀ h : i < L.length, ltN L[i].nm nm = false) : posF L nm = i := by
  have hp := posF_le L nm
  rcases Nat.lt_trichotomy (posF L nm) i with h | h | h
  · have a := h1 (posF L nm) h (by omega)
    rw [posF_at L nm (by omega)] at a; cases a
  · exact h
  · have a := posF_lt L nm i h (by omega)
    rw [h2 (by omega)] at a; cases a
theorem sort_after (L : List Fd) (hs : SortF L) (nm : ByteArray) (i j : Nat) (hij : i ≤ j) (hj : j < L.length) (h : ltN L[i].nm nm = false) : ltN L[j].nm nm = false := by
  by_cases e : i = j
  · subst e; exact h
  · have h1 := hs i j (by omega) hj
    cases h2 : ltN L[j].nm nm with
    | false => rfl
    | true => have := ltN_trans h1 h2; rw [h] at this; cases this
theorem sort_ahead (L : List Fd) (hs : SortF L) (nm : ByteArray) (i j : Nat) (hij : i ≤ j) (hj : j < L.length) (h : ltN L[j].nm nm = true) : ltN L[i].nm nm = true := by
  by_cases e : i = j
  · subst e; exact h
  · exact ltN_trans (hs i j (by omega) hj) h
/-- is the name there? -/
def hasF (L : List Fd) (nm : ByteArray) : Bool := match L[posF L nm]? with | some f => decide (f.nm = nm) | none => false
theorem hasF_at (L : List Fd) (nm : ByteArray) (h : hasF L nm = true) : ∃ hp : posF L nm < L.length, L[posF L nm].nm = nm := by
  unfold hasF at h
  split at h
  · rename_i f hf
    obtain ⟨hp, e⟩ := List.getElem?_eq_some_iff.1 hf
    exact ⟨hp, by rw [e]; simpa using h⟩
  · cases h
theorem hasF_no (L : List Fd) (nm : ByteArray) (h : hasF L nm = false) (hp : posF L nm < L.length) : L[posF L nm].nm ≠ nm := by
  unfold hasF at h
  rw [List.getElem?_eq_getElem hp] at h
  simpa using h
/-- the value of a name -/
def getF (L : List Fd) (nm : ByteArray) : Option Vl := (L.find? fun f => decide (f.nm = nm)).map (·.v)
theorem getF_no (L : List Fd) (nm : ByteArray) (h : ∀ f ∈ L, f.nm ≠ nm) : getF L nm = none := by
  unfold getF
  rw [List.find?_eq_none.2 (fun f hf => by simpa using h f hf)]; rfl
theorem getF_at (L : List Fd) (nm : ByteArray) (i : Nat) (hi : i < L.length) (h : L[i].nm = nm) (h0 : ∀ k (_ : k < i) (hk : k < L.length), L[k].nm ≠ nm) : getF L nm = some L[i].v := by
  unfold getF
  have : L.find? (fun f => decide (f.nm = nm)) = some L[i] := by
    rw [List.find?_eq_some_iff_getElem]
    exact ⟨by simpa using h, i, hi, rfl, fun k hk => by simpa using h0 k hk (by omega)⟩
  rw [this]; rfl
theorem getF_has (L : List Fd) (nm : ByteArray) (h : hasF L nm = true) : ∃ hp : posF L nm < L.length, getF L nm = some L[posF L nm].v := by
  obtain ⟨hp, e⟩ := hasF_at L nm h
  exact ⟨hp, getF_at L nm _ hp e (fun k hk hk2 => ltN_ne (posF_lt L nm k hk hk2))⟩
theorem not_mem_of (L : List Fd) (hs : SortF L) (nm : ByteArray) (h : hasF L nm = false) : ∀ f ∈ L, f.nm ≠ nm := by
  intro f hf e
  obtain ⟨k, hk, rfl⟩ := List.getElem_of_mem hf
  rcases Nat.lt_trichotomy k (posF L nm) with h1 | h1 | h1
  · exact ltN_ne (posF_lt L nm k h1 hk) e
  · have hp : posF L nm < L.length := by omega
    have := hasF_no L nm h hp
    subst h1; exact this e
  · have hp : posF L nm < L.length := by omega
    have h2 := hs (posF L nm) k h1 hk
    rw [e] at h2
    have := posF_at L nm hp
    rw [h2] at this; cases this
theorem getF_none (L : List Fd) (hs : SortF L) (nm : ByteArray) (h : hasF L nm = false) : getF L nm = none := getF_no L nm (not_mem_of L hs nm h)
/-- the fields in which a name has a value -/
def setF (L : List Fd) (nm : ByteArray) (v : Vl) : List Fd := if hasF L nm then L.set (posF L nm) ⟨nm, v⟩ else L.take (posF L nm) ++ ⟨nm, v⟩ :: L.drop (posF L nm)
theorem setF_yes (L : List Fd) (nm : ByteArray) (v : Vl) (h : hasF L nm = true) : setF L nm v = L.set (posF L nm) ⟨nm, v⟩ := by unfold setF; rw [if_pos h]
theorem setF_no (L : List Fd) (nm : ByteArray) (v : Vl) (h : hasF L nm = false) : setF L nm v = L.take (posF L nm) ++ ⟨nm, v⟩ :: L.drop (posF L nm) := by unfold setF; rw [if_neg (by rw [h]; decide)]
theorem setF_len (L : List Fd) (nm : ByteArray) (v : Vl) : (setF L nm v).length = if hasF L nm then L.length else L.length + 1 := by
  unfold setF
  have := posF_le L nm
  split
  · simp
  · simp; omega
theorem mem_setF (L : List Fd) (nm : ByteArray) (v : Vl) (f : Fd) (h : f ∈ setF L nm v) : f ∈ L ∨ f = ⟨nm, v⟩ := by
  unfold setF at h
  split at h
  · rcases List.mem_or_eq_of_mem_set h with h | h
    · exact .inl h
    · exact .inr h
  · rcases List.mem_append.1 h with h | h
    · exact .inl (List.mem_of_mem_take h)
    · rcases List.mem_cons.1 h with h | h
      · exact .inr h
      · exact .inl (List.mem_of_mem_drop h)
/-- what comes out of the linear way: the fields ahead, the new one, those behind -/
theorem setF_split (L : List Fd) (hs : SortF L) (nm : ByteArray) (v : Vl) :
    setF L nm v = L.take (posF L nm) ++ ⟨nm, v⟩ :: (L.drop (posF L nm)).filter (fun f => !decide (f.nm = nm)) := by
  have hp := posF_le L nm
  have tail : ∀ k, posF L nm < k ∨ (k = posF L nm ∧ hasF L nm = false) → (L.drop k).filter (fun f => !decide (f.nm = nm)) = L.drop k := by
    intro k hk
    rw [List.filter_eq_self]
    intro f hf
    obtain ⟨j, hj, e⟩ := List.getElem_of_mem hf
    rw [List.length_drop] at hj
    rw [List.getElem_drop] at e
    subst e
    have hne : L[k + j].nm ≠ nm := by
      intro e
      rcases hk with hk | ⟨rfl, hk⟩
      · have h2 := hs (posF L nm) (k + j) (by omega) (by omega)
        rw [e] at h2
        rw [posF_at L nm (by omega)] at h2; cases h2
      · exact not_mem_of L hs nm hk _ (List.getElem_mem _) e
    simp [hne]
  cases h : hasF L nm with
  | true =>
    obtain ⟨hlt, e⟩ := hasF_at L nm h
    rw [setF_yes L nm v h, List.drop_eq_getElem_cons hlt, List.filter_cons, if_neg (by simp [e]), tail _ (.inl (Nat.lt_succ_self _)), List.set_eq_take_append_cons_drop, if_pos hlt]
  | false => rw [setF_no L nm v h, tail _ (.inr ⟨rfl, h⟩)]
theorem setF_sort (L : List Fd) (hs : SortF L) (nm : ByteArray) (v : Vl) : SortF (setF L nm v) := by
  have hp := posF_le L nm
  cases h : hasF L nm with
  | true =>
    obtain ⟨hlt, e⟩ := hasF_at L nm h
    rw [setF_yes L nm v h]
    intro i j hij hj
    rw [List.length_set] at hj
    have e1 : (L.set (posF L nm) ⟨nm, v⟩)[i]'(by rw [List.length_set]; omega) = if posF L nm = i then ⟨nm, v⟩ else L[i] := List.getElem_set _
    have e2 : (L.set (posF L nm) ⟨nm, v⟩)[j]'(by rw [List.length_set]; omega) = if posF L nm = j then ⟨nm, v⟩ else L[j] := List.getElem_set _
    have n1 : ((L.set (posF L nm) ⟨nm, v⟩)[i]'(by rw [List.length_set]; omega)).nm = L[i].nm := by
      rw [e1]; split
      · rename_i hi; subst hi; exact e.symm
      · rfl
    have n2 : ((L.set (posF L nm) ⟨nm, v⟩)[j]'(by rw [List.length_set]; omega)).nm = L[j].nm := by
      rw [e2]; split
      · rename_i hi; subst hi; exact e.symm
      · rfl
    rw [n1, n2]; exact hs i j hij hj
  | false =>
    rw [setF_no L nm v h]
    have gt : ∀ k (hk : k < L.length), posF L nm ≤ k → ltN nm L[k].nm = true := by
      intro k hk hpk
      have h1 := sort_after L hs nm (posF L nm) k hpk hk (posF_at L nm (by omega))
      cases h2 : ltN nm L[k].nm with
      | true => rfl
      | false => exact absurd (ltN_tri h1 h2) (not_mem_of L hs nm h _ (List.getElem_mem hk))
    intro i j hij hj
    have hlen : (L.take (posF L nm) ++ (⟨nm, v⟩ : Fd) :: L.drop (posF L nm)).length = L.length + 1 := by simp; omega
    have at_ : ∀ k (hk : k < (L.take (posF L nm) ++ (⟨nm, v⟩ : Fd) :: L.drop (posF L nm)).length), (L.take (posF L nm) ++ (⟨nm, v⟩ : Fd) :: L.drop (posF L nm))[k].nm = if h1 : k < posF L nm then (L[k]'(by omega)).nm else if h2 : k = posF L nm then nm else (L[k - 1]'(by omega)).nm := by
      intro k hk
      rw [List.getElem_append]
      simp only [List.length_take, Nat.min_eq_left hp]
      split
      · rw [List.getElem_take]
      · split
        · rename_i h1 h2; simp [h2]
        · rename_i h1 h2
          have : k - posF L nm = (k - posF L nm - 1) + 1 := by omega
          rw [List.getElem_cons]
          split
          · omega
          · rw [List.getElem_drop]
            congr 2; omega
    rw [at_ i (by omega), at_ j (by omega)]
    split
    · split
      · exact hs i j hij _
      · split
        · exact posF_lt L nm i (by assumption) _
        · have h1 := posF_lt L nm i (by assumption) (by omega)
          exact ltN_trans h1 (gt _ (by omega) (by omega))
    · split
      · split
        · omega
        · split
          · omega
          · exact gt _ (by omega) (by omega)
      · split
        · omega
        · split
          · omega
          · exact hs (i - 1) (j - 1) (by omega) (by omega)
theorem setF_ok (L : List Fd) (h : fdsB L = true) (nm : ByteArray) (v : Vl) (hn : isNameB nm.data.toList = true) (hv : v.ok = true) : fdsB (setF L nm v) = true := by
  refine fds_of _ (setF_sort L (sort_of L h) nm v) (fun f hf => ?_)
  rcases mem_setF L nm v f hf with hf | rfl
  · obtain ⟨k, hk, rfl⟩ := List.getElem_of_mem hf
    exact fdsB_at L k hk h
  · exact ⟨hn, hv⟩
end
section
open Go.RowKit

theorem find1_any (f : Fd) (nm : ByteArray) (w : World) : Calls Tryz.prog 85 #[.agg #[.string f.nm, .int .i64 f.v.k, .int .i64 f.v.n, .string f.v.s], .string nm] w fun e w' => e = .returned (.int .i64 (Lib.compareBytes f.nm.data.toList nm.data.toList)) ∧ Below w.heap.size w w' := by
  obtain ⟨a, k, n, s⟩ := f
  simp only
  have HB := Lib.hid (below_alloc w (.cells #[.string a, .int .i64 k, .int .i64 n, .string s] 49))
  go_enter Tryz.func85, Tryz.ntmps85
  go_wp2_with fail
  ((with_reducible refine (Tryz.strings_Compare _ _ _).mono ?_); rintro e w1 ⟨rfl, rfl⟩)
  go_wp2_with fail
  go_ret
  exact ⟨rfl, HB.out⟩
set_option maxHeartbeats 1600000 in
set_option maxRecDepth 100000 in
theorem fbin_any (A : Option Addr) (n cap : Nat) (L : List Fd) (nm : ByteArray) (w : World) (h : FdIn w A L) (hn : L.length = n) (hn4 : n ≤ 1000000) (hs : SortF L) :
    Calls Tryz.prog 84 #[.slice A n cap, .string nm, .func (.func 85) #[] #[]] w fun e w' => e = .returned (.tuple #[.int .i64 (posF L nm : Int), .bool (hasF L nm)]) ∧ Below w.heap.size w w' := by
  have H0 := Lib.hid h
  have HN := Lib.hid hn
  have HSo := Lib.hid hs
  clear h hn hs
  go_enter Tryz.func84, Tryz.ntmps84
  go_wp2_with fail
  go_loopg [9, 10] (n) (fun g iv jv wr => ∃ i j : Nat, i ≤ j ∧ j ≤ n ∧ j ≤ i + g ∧ iv = .int .i64 i ∧ jv = .int .i64 j ∧ (∀ k (_ : k < i) (hk : k < L.length), ltN L[k].nm nm = true) ∧ (∀ k (_ : j ≤ k) (hk : k < L.length), ltN L[k].nm nm = false) ∧ Below w.heap.size w wr)
  case atStart => exact ⟨0, n, by omega, by omega, by omega, rfl, rfl, fun k hk => by omega, fun k hk hk2 => by have := HN.out; omega, Below.refl _ _⟩
  case round =>
    obtain ⟨i, j, hij, hj, hg, rfl, rfl, h1, h2, hB⟩ := hrel
    have HG := Lib.hid hg
    have H1 := Lib.hid h1
    have H2 := Lib.hid h2
    have HB := Lib.hid hB
    have HT := Lib.hid (H0.out.below hB)
    clear hg h1 h2 hB
    by_cases hlt : i < j
    · have hlti : (i : Int) < (j : Int) := by omega
      obtain ⟨m, hm⟩ : ∃ m : Nat, ((i : Int) + (j : Int)) / 2 = (m : Int) := ⟨(i + j) / 2, by omega⟩
      have hm1 : i ≤ m := by omega
      have hm2 : m < j := by omega
      have hm3 : m < n := by omega
      have hlt' : m < L.length := by rw [HN.out]; exact hm3
      obtain ⟨ad, rfl, hp, c0, c1, c2, c3⟩ := HT.out m hlt'
      have HA := Lib.hid (show ltN L[m].nm nm = true → ∀ k (_ : k < m + 1) (hk : k < L.length), ltN L[k].nm nm = true from fun h k _ hk => sort_ahead L HSo.out nm k m (by omega) hlt' h)
      have HZ := Lib.hid (show ltN L[m].nm nm = false → ∀ k (_ : m ≤ k) (hk : k < L.length), ltN L[k].nm nm = false from fun h k hmk hk => sort_after L HSo.out nm m k hmk hk h)
      have HX := Lib.hid (fun w => find1_any L[m] nm w)
      rw [cmpN] at HX
      generalize L[m] = x at HX HA HZ c0 c1 c2 c3
      clear hlt'
      cases hl : ltN x.nm nm with
      | true =>
        rw [hl, if_pos rfl] at HX
        replace HA := Lib.hid (HA.out hl)
        clear hl HZ
        go_wp2_with fail
        ((with_reducible refine (HX.out _).mono ?_); rintro e w1 ⟨rfl, hb1⟩)
        have HB1 := Lib.hid (below_then HB.out hb1)
        clear hb1 c0 c1 c2 c3
        go_wp2_with fail
        go_roundg (gk - 1)
        case measure => have := HG.out; omega
        case rel => exact ⟨m + 1, j, by omega, hj, by have := HG.out; omega, by go_num, rfl, HA.out, H2.out, HB1.out⟩
      | false =>
        replace HZ := Lib.hid (HZ.out hl)
        obtain ⟨z, hz, hz0⟩ : ∃ z : Int, (if x.nm = nm then (0 : Int) else 1) = z ∧ 0 ≤ z := by
          by_cases e : x.nm = nm
          · exact ⟨0, by rw [if_pos e], by omega⟩
          · exact ⟨1, by rw [if_neg e], by omega⟩
        rw [hl, if_neg (by decide), hz] at HX
        clear hl HA hz
        go_wp2_with fail
        ((with_reducible refine (HX.out _).mono ?_); rintro e w1 ⟨rfl, hb1⟩)
        have HB1 := Lib.hid (below_then HB.out hb1)
        clear hb1 c0 c1 c2 c3
        go_wp2_with fail
        go_roundg (gk - 1)
        case measure => have := HG.out; omega
        case rel => exact ⟨i, m, hm1, by omega, by have := HG.out; omega, rfl, rfl, H1.out, HZ.out, HB1.out⟩
    · obtain rfl : i = j := by omega
      have HPos := Lib.hid (posF_eq L nm i (by rw [HN.out]; exact hj) H1.out (fun h => H2.out i (Nat.le_refl _) h))
      clear H1 H2
      by_cases hin : i < n
      · have hini : (i : Int) < (n : Int) := by omega
        have hlt' : i < L.length := by rw [HN.out]; exact hin
        obtain ⟨ad, rfl, hp, c0, c1, c2, c3⟩ := HT.out i hlt'
        have HX := Lib.hid (fun w => find1_any L[i] nm w)
        have HHas := Lib.hid (show hasF L nm = decide (L[i].nm = nm) by unfold hasF; rw [HPos.out, List.getElem?_eq_getElem hlt'])
        have hnl : ltN L[i].nm nm = false := by
          have := posF_at L nm (by rw [HPos.out]; exact hlt')
          simp only [HPos.out] at this; exact this
        rw [cmpN, hnl, if_neg (by decide)] at HX
        clear hnl
        generalize L[i] = x at HX c0 c1 c2 c3 HHas
        clear hlt'
        by_cases e : x.nm = nm
        · rw [if_pos e] at HX
          rw [decide_eq_true e] at HHas
          clear e
          go_wp2_with fail
          ((with_reducible refine (HX.out _).mono ?_); rintro e w1 ⟨rfl, hb1⟩)
          go_wp2_with fail
          go_ret2
          exact ⟨by rw [HHas.out, HPos.out]; rfl, below_then HB.out hb1⟩
        · rw [if_neg e] at HX
          rw [decide_eq_false e] at HHas
          clear e
          go_wp2_with fail
          ((with_reducible refine (HX.out _).mono ?_); rintro e w1 ⟨rfl, hb1⟩)
          go_wp2_with fail
          go_ret2
          exact ⟨by rw [HHas.out, HPos.out]; rfl, below_then HB.out hb1⟩
      · obtain rfl : i = n := by omega
        have HHas := Lib.hid (show hasF L nm = false by unfold hasF; rw [HPos.out, List.getElem?_eq_none (by rw [HN.out]; omega)])
        go_wp2_with fail
        go_ret2
        exact ⟨by rw [HHas.out, HPos.out]; rfl, HB.out⟩
theorem find_any (A : Option Addr) (n cap : Nat) (L : List Fd) (nm : ByteArray) (w : World) (h : FdIn w A L) (hn : L.length = n) (hn4 : n ≤ 1000000) (hs : SortF L) :
    Calls Tryz.prog 50 #[.slice A n cap, .string nm] w fun e w' => e = .returned (.tuple #[.int .i64 (posF L nm : Int), .bool (hasF L nm)]) ∧ Below w.heap.size w w' := by
  have HX := Lib.hid (fbin_any A n cap L nm w h hn hn4 hs)
  clear h hn hn4 hs
  go_enter Tryz.func50, Tryz.ntmps50
  go_wp2_with fail
  ((with_reducible refine HX.out.mono ?_); rintro e w1 ⟨rfl, hb1⟩)
  go_wp2_with fail
  go_ret2
  exact ⟨rfl, hb1⟩
end
section
open Go.RowKit

/-- what Get answers -/
def gR (e : Ev) (nm : ByteArray) : Vl × Int := if e.ok then (match getF e.d nm with | some v => (v, 0) | none => (v0, 10)) else (v0, 1)
theorem gR_bad {e : Ev} (nm : ByteArray) (h : e.ok = false) : gR e nm = (v0, 1) := by unfold gR; rw [h]; rfl
theorem gR_none {e : Ev} {nm : ByteArray} (h : e.ok = true) (hn : getF e.d nm = none) : gR e nm = (v0, 10) := by unfold gR; rw [h, hn]; rfl
theorem gR_some {e : Ev} {nm : ByteArray} {v : Vl} (h : e.ok = true) (hn : getF e.d nm = some v) : gR e nm = (v, 0) := by unfold gR; rw [h, hn]; rfl
/-- what Get returns -/
def gRet (r : Vl × Int) : Ending := .returned (.tuple #[.agg #[.int .i64 r.1.k, .int .i64 r.1.n, .string r.1.s], .int .i64 r.2])
theorem bset3 {B b : Nat} {w0 w : World} (h : Below B w0 w) (hb : B ≤ b) (x0 x1 x2 : Value) :
    Below B w0 (((w.setCell ⟨b, 0, none⟩ x0).setCell ⟨b, 1, none⟩ x1).setCell ⟨b, 2, none⟩ x2) :=
  ((h.setCell (p := ⟨b, 0, none⟩) hb x0).setCell (p := ⟨b, 1, none⟩) hb x1).setCell (p := ⟨b, 2, none⟩) hb x2
/-- while Get runs: the event's block, the result's block, the fields -/
def GSt (w wr : World) (e : Ev) (A : Option Addr) (n cap : Nat) : Prop := EB wr w.heap.size e A n cap ∧ VB wr (w.heap.size + 1) v0 ∧ FdIn wr A e.d ∧ Below w.heap.size w wr
theorem GSt.below {w wr w' : World} {e : Ev} {A : Option Addr} {n cap : Nat} (h : GSt w wr e A n cap) (hb : Below wr.heap.size wr w') : GSt w w' e A n cap :=
  ⟨h.1.below hb, VB.below h.2.1 hb, h.2.2.1.below hb, below_then h.2.2.2 hb⟩
theorem GSt.eb {w wr : World} {e : Ev} {A : Option Addr} {n cap : Nat} (h : GSt w wr e A n cap) : EB wr w.heap.size e A n cap := h.1
theorem GSt.vb {w wr : World} {e : Ev} {A : Option Addr} {n cap : Nat} (h : GSt w wr e A n cap) : VB wr (w.heap.size + 1) v0 := h.2.1
theorem GSt.fd {w wr : World} {e : Ev} {A : Option Addr} {n cap : Nat} (h : GSt w wr e A n cap) : FdIn wr A e.d := h.2.2.1
theorem GSt.bel {w wr : World} {e : Ev} {A : Option Addr} {n cap : Nat} (h : GSt w wr e A n cap) : Below w.heap.size w wr := h.2.2.2
theorem GSt.new (w : World) (e : Ev) (A : Option Addr) (n cap : Nat) (h : FdIn w A e.d) :
    GSt w ((w.alloc (.cells #[.string e.c, .string e.a, .string e.r, .int .i64 e.life, .int .i64 e.time, .slice A n cap] 24)).alloc (.cells #[.int .i64 0, .int .i64 0, .string ⟨#[]⟩] 39)) e A n cap := by
  have h1 := VB.new (w.alloc (.cells #[.string e.c, .string e.a, .string e.r, .int .i64 e.life, .int .i64 e.time, .slice A n cap] 24)) v0
  rw [World.size_alloc] at h1
  exact ⟨(EB.new w e A n cap).below (below_alloc _ _), h1, h.below (two_boxes w _ _), two_boxes w _ _⟩
set_option maxHeartbeats 3200000 in
set_option maxRecDepth 100000 in
theorem eget_any (e : Ev) (A : Option Addr) (n cap : Nat) (nm : ByteArray) (w : World) (h : FdIn w A e.d) (hn : e.d.length = n) (hn2 : n ≤ 1000000) (hf : e.fit 9223372036854775000) :
    Calls Tryz.prog 17 #[.agg #[.string e.c, .string e.a, .string e.r, .int .i64 e.life, .int .i64 e.time, .slice A n cap], .string nm] w fun x w' => x = gRet (gR e nm) ∧ Below w.heap.size w w' := by
  have HS := Lib.hid (GSt.new w e A n cap h)
  have HX := Lib.hid (fun w h => evalid_any e A n cap w h hn hn2 hf)
  have HN := Lib.hid hn
  clear h hf hn
  go_enter Tryz.func17, Tryz.ntmps17
  go_wp2_with fail
  generalize ((w.alloc _).alloc _) = w0 at HS ⊢
  ((with_reducible refine (HX.out _ HS.out.fd).mono ?_); rintro x w1 ⟨rfl, hb1⟩)
  replace HS := Lib.hid (HS.out.below hb1)
  clear hb1
  obtain ⟨d0, d1, d2, g0, g1, g2⟩ := HS.out.vb.cells
  simp only [v0] at d0 d1 d2
  cases hok : e.ok with
  | false =>
    have HR := Lib.hid (gR_bad nm hok)
    clear HX
    clear hok
    go_wp2_with fail
    exact bodyPost_ret (v := .tuple #[.agg #[.int .i64 0, .int .i64 0, .string ⟨#[]⟩], .int .i64 1]) (by simp [results, Tryz.results17, go_sem, d0, d1, d2]) rfl ⟨by rw [HR.out]; rfl, bset3 HS.out.bel (Nat.le_succ _) _ _ _⟩
  | true =>
    have hso : SortF e.d := sort_of e.d (by unfold Ev.ok at hok; rw [Bool.and_eq_true] at hok; exact hok.2)
    have HSo := Lib.hid hso
    have HF := Lib.hid (fun w h => find_any A n cap e.d nm w h HN.out hn2 hso)
    have HOk := Lib.hid hok
    clear HX hok hso
    obtain ⟨x0, x1, x2, x3, x4, x5⟩ := HS.out.eb.cells
    go_wp2_with fail
    ((with_reducible refine (HF.out _ HS.out.fd).mono ?_); rintro x w2 ⟨rfl, hb2⟩)
    replace HS := Lib.hid (HS.out.below hb2)
    clear hb2 d0 d1 d2 g0 g1 g2 x0 x1 x2 x3 x4 x5 HF
    obtain ⟨d0, d1, d2, g0, g1, g2⟩ := HS.out.vb.cells
    simp only [v0] at d0 d1 d2
    obtain ⟨x0, x1, x2, x3, x4, x5⟩ := HS.out.eb.cells
    cases hh : hasF e.d nm with
    | false =>
      have HR := Lib.hid (gR_none HOk.out (getF_none e.d HSo.out nm hh))
      clear hh
      go_wp2_with fail
      exact bodyPost_ret (v := .tuple #[.agg #[.int .i64 0, .int .i64 0, .string ⟨#[]⟩], .int .i64 10]) (by simp [results, Tryz.results17, go_sem, d0, d1, d2]) rfl ⟨by rw [HR.out]; rfl, bset3 HS.out.bel (Nat.le_succ _) _ _ _⟩
    | true =>
      obtain ⟨hp, hg⟩ := getF_has e.d nm hh
      have HR := Lib.hid (gR_some HOk.out hg)
      obtain ⟨ad, rfl, hpa, c0, c1, c2, c3⟩ := HS.out.fd (posF e.d nm) hp
      have hpn : posF e.d nm < n := by rw [← HN.out]; exact hp
      clear hg hh c0
      generalize e.d[posF e.d nm] = x at *
      obtain ⟨xn, xk, xi, xs⟩ := x
      simp only at c1 c2 c3
      generalize posF e.d nm = p at *
      go_wp2_with fail
      exact bodyPost_ret (v := .tuple #[.agg #[.int .i64 xk, .int .i64 xi, .string xs], .int .i64 0]) (by simp [results, Tryz.results17, go_sem, d0, d1, d2]) rfl ⟨by rw [HR.out]; rfl, bset3 HS.out.bel (Nat.le_succ _) _ _ _⟩
set_option maxHeartbeats 3200000 in
set_option maxRecDepth 100000 in
theorem rget_any (e : Ev) (A : Option Addr) (n cap : Nat) (nm : ByteArray) (w : World) (h : FdIn w A e.d) (hn : e.d.length = n) (hn2 : n ≤ 1000000) (hf : e.fit 9223372036854775000) :
    Calls Tryz.prog 18 #[.agg #[.string e.c, .string e.a, .string e.r, .int .i64 e.life, .int .i64 e.time, .slice A n cap], .string nm] w fun x w' => x = gRet (gR e nm) ∧ Below w.heap.size w w' := by
  have HS := Lib.hid (GSt.new w e A n cap h)
  have HX := Lib.hid (fun w h => revalid_any e A n cap w h hn hn2 hf)
  have HN := Lib.hid hn
  clear h hf hn
  go_enter Tryz.func18, Tryz.ntmps18
  go_wp2_with fail
  generalize ((w.alloc _).alloc _) = w0 at HS ⊢
  ((with_reducible refine (HX.out _ HS.out.fd).mono ?_); rintro x w1 ⟨rfl, hb1⟩)
  replace HS := Lib.hid (HS.out.below hb1)
  clear hb1
  obtain ⟨d0, d1, d2, g0, g1, g2⟩ := HS.out.vb.cells
  simp only [v0] at d0 d1 d2
  cases hok : e.ok with
  | false =>
    have HR := Lib.hid (gR_bad nm hok)
    clear HX
    clear hok
    go_wp2_with fail
    exact bodyPost_ret (v := .tuple #[.agg #[.int .i64 0, .int .i64 0, .string ⟨#[]⟩], .int .i64 1]) (by simp [results, Tryz.results18, go_sem, d0, d1, d2]) rfl ⟨by rw [HR.out]; rfl, bset3 HS.out.bel (Nat.le_succ _) _ _ _⟩
  | true =>
    have HOk := Lib.hid hok
    clear HX hok
    go_wp2_with fail
    clear d0 d1 d2 g0 g1 g2
    go_loopg [6] (n) (fun g i wr => ∃ k : Nat, k + g = n ∧ i = .int .i64 k ∧ (∀ j (_ : j < k) (hj : j < e.d.length), e.d[j].nm ≠ nm) ∧ w1 = wr)
    case atStart => exact ⟨0, by omega, rfl, fun j hj => by omega, rfl⟩
    case round =>
      obtain ⟨k, hk, rfl, hno, rfl⟩ := hrel
      have HK := Lib.hid hk
      have HNo := Lib.hid hno
      have hle : k ≤ n := by omega
      clear hk hno
      obtain ⟨d0, d1, d2, g0, g1, g2⟩ := HS.out.vb.cells
      simp only [v0] at d0 d1 d2
      obtain ⟨x0, x1, x2, x3, x4, x5⟩ := HS.out.eb.cells
      by_cases hlt : k < n
      · have hlt' : k < e.d.length := by rw [HN.out]; exact hlt
        obtain ⟨ad, rfl, hpa, c0, c1, c2, c3⟩ := HS.out.fd k hlt'
        by_cases hnm : e.d[k].nm = nm
        · have HR := Lib.hid (gR_some HOk.out (getF_at e.d nm k hlt' hnm HNo.out))
          have q1 : (e.d[k].nm.toList == nm.toList) = true := by rw [hnm]; exact beq_self_eq_true _
          clear hnm HNo
          generalize e.d[k] = x at *
          clear hlt'
          obtain ⟨xn, xk, xi, xs⟩ := x
          simp only at c0 c1 c2 c3 q1
          go_wp2_with fail
          exact bodyPost_ret (v := .tuple #[.agg #[.int .i64 xk, .int .i64 xi, .string xs], .int .i64 0]) (by simp [results, Tryz.results18, go_sem, d0, d1, d2]) rfl ⟨by rw [HR.out]; rfl, bset3 HS.out.bel (Nat.le_succ _) _ _ _⟩
        · have q1 : (e.d[k].nm.toList == nm.toList) = false := str_ne _ _ (fun h => hnm (bytes_ext h))
          have HN2 := Lib.hid (show ∀ j (_ : j < k + 1) (hj : j < e.d.length), e.d[j].nm ≠ nm from fun j hj hj2 => by
            by_cases ej : j = k
            · subst ej; exact hnm
            · exact HNo.out j (by omega) hj2)
          clear hnm HNo
          generalize e.d[k] = x at c0 c1 c2 c3 q1
          clear hlt'
          obtain ⟨xn, xk, xi, xs⟩ := x
          simp only at c0 c1 c2 c3 q1
          go_wp2_with fail
          go_roundg (gk - 1)
          case measure => have := HK.out; omega
          case rel => exact ⟨k + 1, by have := HK.out; omega, by go_num, HN2.out, rfl⟩
      · have HR := Lib.hid (gR_none HOk.out (getF_no e.d nm (fun f hf => by
          obtain ⟨j, hj, e⟩ := List.getElem_of_mem hf
          subst e
          exact HNo.out j (by have := HN.out; omega) hj)))
        go_wp2_with fail
        exact bodyPost_ret (v := .tuple #[.agg #[.int .i64 0, .int .i64 0, .string ⟨#[]⟩], .int .i64 10]) (by simp [results, Tryz.results18, go_sem, d0, d1, d2]) rfl ⟨by rw [HR.out]; rfl, bset3 HS.out.bel (Nat.le_succ _) _ _ _⟩
end
section
open Go.RowKit

/-- copy into a row that is known whole, elements of any size -/
theorem run_copy_rowK {P : Program} (w : World) (dT sT ty elem : TypeId) (K g o m dLen dCap : Nat) (a : Addr) (sLen sCap : Nat) (cur : Array Value) (t : TypeId) (cs : List Value)
    (hu : P.underlying dT = some (.slice elem)) (hs : (P.info? elem).map (·.size) = some K)
    (hg : w.heap[g]? = some (.cells cur t (0, 0))) (hm : m = Nat.min sLen dLen) (hn : cs.length = m * K)
    (hsrc : ∀ j v, cs[j]? = some v → w.cell? (a.add j) = some v) (hfit : o + cs.length ≤ cur.size) (h1 : ∀ v ∈ cs, v.oneCell' = true) :
    (Builtin.copy_ #[dT, sT] ty #[.slice (some ⟨g, o, none⟩) dLen dCap, .slice (some a) sLen sCap]).run P w =
      .ok (goInt m) (w.setRow g (cur.toList.take o ++ cs ++ cur.toList.drop (o + cs.length)).toArray) := by
  have hl := run_loadCells_list (P := P) w a cs hsrc
  have hst := run_storeCells_at P g o t cs 0 cur w hg (by simpa using hfit) h1
  cases hq : P.info? elem with
  | none => simp [hq] at hs
  | some i =>
    have hi : i.size = K := by simpa [hq] using hs
    simp [Builtin.copy_, run_underlying hu, Builtin.lenOf, Builtin.firstCells, sizeOf, typeInfo, hq, hi, ← hm, ← hn, hl, hst]
/-- the operation 'copy' where its run is known by an equation -/
theorem wp_copy_run {P : Program} (w : World) {o : Oper} {a : Act} {K : Act → World → Prop} {Q : Exit → Act → World → Prop} (d s : Operand) (t t' : TypeId)
    (ho : o.op = .call { callee := .builtin .copy, args := #[d, s], argTypes := #[t, t'] }) (v u : Value) (hd : a.eval d = v) (hs : a.eval s = u) {v' : Value} {w' : World}
    (hr : (Builtin.copy_ #[t, t'] o.type #[v, u]).run P w = .ok v' w') (h : K (a.put o.dst v') w') : o.wp P a w K Q := by
  unfold Oper.wp execOp
  simp only [ho, resolve, invoke, builtin, Sem.run_bind, Sem.run_pure, Result.andThen_ok, List.map_toArray, List.map_cons, List.map_nil, hd, hs, hr]
  exact h
theorem wpList_copy_run {P : Program} (w : World) {ops : Array Oper} {rest : List Oper} {o : Oper} {a : Act} {Q : Exit → Act → World → Prop} (hgd : o.guard = none) (d s : Operand) (t t' : TypeId)
    (ho : o.op = .call { callee := .builtin .copy, args := #[d, s], argTypes := #[t, t'] }) (v u : Value) (hd : a.eval d = v) (hs : a.eval s = u) {v' : Value} {w' : World}
    (hr : (Builtin.copy_ #[t, t'] o.type #[v, u]).run P w = .ok v' w') (h : wpList P ops Q rest (a.put o.dst v') w') : wpList P ops Q (o :: rest) a w :=
  wpList_plain hgd fun _ hK => wp_copy_run w d s t t' ho v u hd hs hr (hK _ _ h)
theorem step_copy_run {P : Program} {ops : Array Oper} {o : Oper} {a : Act} {w : World} {K : Act → World → Prop} {Q : Exit → Act → World → Prop} {E : Prop}
    (hg : o.guard = none) (d x : Operand) (dT sT : TypeId) (hop : o.op = Op.call { callee := Callee.builtin Builtin.copy, args := #[d, x], argTypes := #[dT, sT] })
    (v u : Value) (hd : a.eval d = v) (hx : a.eval x = u) {v' : Value} {w' : World} (hr : (Builtin.copy_ #[dT, sT] o.type #[v, u]).run P w = .ok v' w') (hK : K (a.put o.dst v') w') :
    if Region.wanted o (yielded ops a.tmps) = true then Oper.wp P o a w K Q else E := by
  have hw : Region.wanted o (yielded ops a.tmps) = true := by simp [Region.wanted, hg]
  rw [if_pos hw]
  exact wp_copy_run w d x dT sT hop v u hd hx hr hK
theorem take_flat {α : Type} {c : α → List Value} {K : Nat} (hK : ∀ x, (c x).length = K) (L : List α) : ∀ i, (L.flatMap c).take (i * K) = (L.take i).flatMap c := by
  induction L with
  | nil => intro i; simp
  | cons a L ih =>
    intro i
    cases i with
    | zero => simp
    | succ i =>
      rw [List.flatMap_cons, List.take_succ_cons, List.flatMap_cons, ← ih i, show (i + 1) * K = (c a).length + i * K by rw [hK, Nat.add_mul, Nat.one_mul, Nat.add_comm], List.take_length_add_append]
theorem drop_flat {α : Type} {c : α → List Value} {K : Nat} (hK : ∀ x, (c x).length = K) (L : List α) : ∀ i, (L.flatMap c).drop (i * K) = (L.drop i).flatMap c := by
  induction L with
  | nil => intro i; simp
  | cons a L ih =>
    intro i
    cases i with
    | zero => simp
    | succ i =>
      rw [List.flatMap_cons, List.drop_succ_cons, ← ih i, show (i + 1) * K = (c a).length + i * K by rw [hK, Nat.add_mul, Nat.one_mul, Nat.add_comm], List.drop_length_add_append]
theorem setRow_other (w : World) (g : Nat) (cs : Array Value) (k : Nat) (h : k ≠ g) : (w.setRow g cs).heap[k]? = w.heap[k]? := by
  unfold World.setRow
  simp [Array.getElem?_modify, Ne.symm h]
/-- the rows of an insertion -/
theorem ins_row (xs fs : List Value) (cur : List Value) (n i : Nat) (hi : i ≤ n) (hlen : (n + 1) * 4 ≤ cur.length) (hx : cur.take (n * 4) = xs) (hf : fs.length = 4) :
    ((((cur.take ((i + 1) * 4) ++ xs.drop (i * 4) ++ cur.drop ((i + 1) * 4 + (xs.drop (i * 4)).length)).take (i * 4) ++ fs ++ (cur.take ((i + 1) * 4) ++ xs.drop (i * 4) ++ cur.drop ((i + 1) * 4 + (xs.drop (i * 4)).length)).drop (i * 4 + fs.length)).take ((n + 1) * 4)) = xs.take (i * 4) ++ fs ++ xs.drop (i * 4)) := by
  have hxl : xs.length = n * 4 := by rw [← hx, List.length_take]; omega
  have hdl : (xs.drop (i * 4)).length = (n - i) * 4 := by rw [List.length_drop, hxl]; omega
  have e1 : (cur.take ((i + 1) * 4) ++ xs.drop (i * 4) ++ cur.drop ((i + 1) * 4 + (xs.drop (i * 4)).length)).take (i * 4) = xs.take (i * 4) := by
    rw [List.append_assoc, List.take_append_of_le_length (by rw [List.length_take]; omega), List.take_take, ← hx, List.take_take]
    congr 1
    simp only [Nat.min_def]; split <;> split <;> omega
  have e2 : (cur.take ((i + 1) * 4) ++ xs.drop (i * 4) ++ cur.drop ((i + 1) * 4 + (xs.drop (i * 4)).length)).drop (i * 4 + fs.length) = xs.drop (i * 4) ++ cur.drop ((i + 1) * 4 + (xs.drop (i * 4)).length) := by
    rw [List.append_assoc, show i * 4 + fs.length = (cur.take ((i + 1) * 4)).length by rw [List.length_take, hf]; omega, List.drop_left]
  rw [e1, e2, ← List.append_assoc, List.take_left' (by rw [List.length_append, List.length_append, List.length_take, hdl, hf, hxl]; omega)]
set_option maxHeartbeats 1600000 in
set_option maxRecDepth 100000 in
theorem fclone_any (A : Option Addr) (n cap : Nat) (L : List Fd) (w : World) (h : FdIn w A L) (hn : L.length = n) (hn4 : n ≤ 1000000) :
    Calls Tryz.prog 51 #[.slice A n cap] w fun e w' => ∃ v, e = .returned v ∧ w'.ownsRow w.heap.size 49 4 v n (L.flatMap fdC) ∧ Below w.heap.size w w' := by
  have HN := Lib.hid hn
  obtain ⟨i0, hi, hz0, hz1, hz2⟩ := info_parts fdInfo
  have HI := Lib.hid (And.intro hi (And.intro hz0 (And.intro hz1 hz2)))
  have heq := fun (w : World) (a : Option Addr) (n c : Nat) => Lib.run_eql_slice_nil (P := Tryz.prog) w 22 49 a n c 0 0 Tryz.underlying22
  cases A with
  | none =>
    have hl : L = [] := by
      cases L with
      | nil => rfl
      | cons x L => obtain ⟨ad, e, _⟩ := h 0 (by simp); cases e
    subst hl
    obtain rfl : n = 0 := by rw [← hn]; rfl
    clear h hn hi hz0 hz1 hz2 HN
    go_enter Tryz.func51, Tryz.ntmps51
    go_wp2_with fail
    go_ret
    exact ⟨_, rfl, World.ownsRow_nil _ _ _ _, Below.refl _ _⟩
  | some ad =>
    have HR := Lib.hid (Rd.news fdC_len (by omega) (rd_of_fd h))
    have HB := Lib.hid (fun (j : Nat) (u : Value) (hj : (L.flatMap fdC)[j]? = some u) => cell_stays (below_alloc w (.cells #[] 49)) (HR.out j u hj))
    have HL := Lib.hid (show (L.flatMap fdC).length = n * 4 by rw [row_len fdC_len, hn])
    have H1 := Lib.hid (row_one fdC_one L)
    have HO := Lib.hid (World.ownsRow_lit (base := w.heap.size) (e := 49) (size := 4) w #[] 0 (Nat.le_refl _) (by unfold maxLen; omega) rfl)
    generalize L.flatMap fdC = cs at *
    clear h hn hi hz0 hz1 hz2
    go_enter Tryz.func51, Tryz.ntmps51
    go_wp2_with (at_builtin; refine wpList_append_own _ rfl _ _ 22 rfl (w.heap.size) 49 i0 (.agg #[.string ⟨#[]⟩, .int .i64 0, .int .i64 0, .string ⟨#[]⟩]) 4 48 Tryz.underlying22 HI.out.1 HI.out.2.1 HI.out.2.2.1 HI.out.2.2.2 rfl (by decide) (.slice (some ⟨w.heap.size, 0, none⟩) 0 0) _ _ rfl HO.out ad n cap cs rfl HL.out HB.out H1.out ?c3 ?c4 (by simp) ?_)
    case c3 => unfold maxLen; omega
    case c4 => omega
    intro v' w4 hown hgrow _
    have HOw := Lib.hid hown
    have HBl := Lib.hid ((below_alloc w (.cells #[] 49)).grown hgrow (by simp) (fun k hk => by simp [Value.ownBlock] at hk; omega))
    clear hown hgrow
    go_wp2_with fail
    go_ret
    exact ⟨_, rfl, by simpa using HOw.out, HBl.out⟩
set_option maxHeartbeats 1600000 in
set_option maxRecDepth 100000 in
theorem fins_room (g n c i vb : Nat) (L : List Fd) (f : Fd) (cur : Array Value) (w : World) (hi : i < n) (hr : n + 1 ≤ c) (hn : n ≤ 1000000) (hc : c ≤ 9223372036854775807)
    (hg : w.heap[g]? = some (.cells cur 49 (0, 0))) (hcs : cur.size = c * 4) (hL : cur.toList.take (n * 4) = L.flatMap fdC) (hl : L.length = n)
    (hv : w.heap[vb]? = some (.cells (fdC f).toArray 49 (0, 0))) (hne : vb ≠ g) :
    Calls Tryz.prog 52 #[.slice (some ⟨g, 0, none⟩) n c, .int .i64 i, .slice (some ⟨vb, 0, none⟩) 1 1] w fun e w' =>
      e = .returned (.slice (some ⟨g, 0, none⟩) (n + 1) c) ∧ ∃ cur' : Array Value, w' = w.drew.setRow g cur' ∧ cur'.size = c * 4 ∧ cur'.toList.take ((n + 1) * 4) = (L.take i ++ f :: L.drop i).flatMap fdC := by
  have hz2 : ¬ ((i : Int) = (n : Int)) := by omega
  have hin : i ≤ n := by omega
  have hb2 : ¬ (c = i + 1) := by omega
  have hb4 : ¬ (c = i) := by omega
  have hov : ∀ lb cb, (callFunc 87 #[.slice (some ⟨vb, 0, none⟩) 1 1, .slice (some ⟨g, (i + 1) * 4, none⟩) lb cb]).run Tryz.prog w = .ok (.value (.bool false)) w := fun lb cb => by
    rw [run_callFunc_extern Tryz.func87 (by kernel_rfl) (by kernel_rfl) (by kernel_rfl) (e := Extern.SlicesOverlaps.overlaps #[22, 22] #[4]) (by kernel_rfl),
      Lib.run_overlaps_apart w 22 4 49 Tryz.underlying22 4 (fun w => by kernel_rfl) ⟨vb, 0, none⟩ ⟨g, (i + 1) * 4, none⟩ 1 1 lb cb hne 49 49 4 cur.size (by simp [World.shape?, hv, fdC]) (by simp [World.shape?, hg]) (by omega) (by simp [World.frozen?, hv]) (by simp [World.frozen?, hv])]
    rfl
  have hxl : (L.flatMap fdC).length = n * 4 := by rw [row_len fdC_len, hl]
  have hdl : ((L.flatMap fdC).drop (i * 4)).length = (n - i) * 4 := by rw [List.length_drop, hxl]; omega
  have hdc : ∀ j v, ((L.flatMap fdC).drop (i * 4))[j]? = some v → w.cell? ⟨g, i * 4 + j, none⟩ = some v := fun j v hj => by
    have hlt : i * 4 + j < n * 4 := by
      rcases Nat.lt_or_ge j ((L.flatMap fdC).drop (i * 4)).length with h | h
      · rw [hdl] at h; omega
      · rw [List.getElem?_eq_none h] at hj; cases hj
    rw [List.getElem?_drop, ← hL, List.getElem?_take, if_pos hlt] at hj
    simp [World.cell?, hg]
    simpa using hj
  have hone := row_one fdC_one L
  have hns : (Tryz.prog.info? 49).map (·.size) = some 4 := by kernel_rfl
  have hadd : ∀ (b o j : Nat), (⟨b, o, none⟩ : Addr).add j = ⟨b, o + j, none⟩ := fun b o j => by unfold Addr.add; split <;> simp_all
  have hins := ins_row (L.flatMap fdC) (fdC f) cur.toList n i hin (by rw [Array.length_toList, hcs]; omega) hL rfl
  have hcp1 : ∀ ty dc sc, (Builtin.copy_ #[22, 22] ty #[.slice (some ⟨g, (i + 1) * 4, none⟩) (n - i) dc, .slice (some ⟨g, i * 4, none⟩) (n + 1 - i) sc]).run Tryz.prog w.drew = .ok (goInt (n - i : Nat)) (w.drew.setRow g (cur.toList.take ((i + 1) * 4) ++ (L.flatMap fdC).drop (i * 4) ++ cur.toList.drop ((i + 1) * 4 + ((L.flatMap fdC).drop (i * 4)).length)).toArray) := fun ty dc sc =>
    run_copy_rowK w.drew 22 22 ty 49 4 g ((i + 1) * 4) (n - i) (n - i) dc ⟨g, i * 4, none⟩ (n + 1 - i) sc cur 49 _ Tryz.underlying22 hns hg
      (by simp only [Nat.min_def]; split <;> omega) hdl (fun j v hj => by rw [hadd]; exact hdc j v hj) (by rw [hdl, hcs]; omega) (fun v hv => hone v (List.mem_of_mem_drop hv))
  obtain ⟨cur1, hcur1⟩ : ∃ cur1 : Array Value, cur1 = (cur.toList.take ((i + 1) * 4) ++ (L.flatMap fdC).drop (i * 4) ++ cur.toList.drop ((i + 1) * 4 + ((L.flatMap fdC).drop (i * 4)).length)).toArray := ⟨_, rfl⟩
  have hsz1 : cur1.size = c * 4 := by
    rw [hcur1, List.size_toArray, List.length_append, List.length_append, hdl, List.length_take, List.length_drop, Array.length_toList, hcs]; omega
  have hg1 : (w.drew.setRow g cur1).heap[g]? = some (.cells cur1 49 (0, 0)) := setRow_heap w.drew g cur cur1 49 (0, 0) hg
  have hv1 : (w.drew.setRow g cur1).heap[vb]? = some (.cells (fdC f).toArray 49 (0, 0)) := by
    rw [setRow_other _ _ _ _ hne]; exact hv
  have hcp2 : ∀ ty dc, (Builtin.copy_ #[22, 22] ty #[.slice (some ⟨g, i * 4, none⟩) (n + 1 - i) dc, .slice (some ⟨vb, 0, none⟩) 1 1]).run Tryz.prog (w.drew.setRow g cur1) = .ok (goInt (1 : Nat)) ((w.drew.setRow g cur1).setRow g (cur1.toList.take (i * 4) ++ fdC f ++ cur1.toList.drop (i * 4 + (fdC f).length)).toArray) := fun ty dc =>
    run_copy_rowK _ 22 22 ty 49 4 g (i * 4) 1 (n + 1 - i) dc ⟨vb, 0, none⟩ 1 1 cur1 49 (fdC f) Tryz.underlying22 hns hg1
      (by simp only [Nat.min_def]; split <;> omega) rfl (fun j v hj => by rw [hadd, Nat.zero_add]; simp [World.cell?, hv1]; exact hj) (by rw [hsz1]; show i * 4 + 4 ≤ _; omega) (fdC_one f)
  rw [← hcur1] at hcp1
  rw [setRow_setRow] at hcp2
  have HFin := Lib.hid (show ∃ cur' : Array Value, w.drew.setRow g (cur1.toList.take (i * 4) ++ fdC f ++ cur1.toList.drop (i * 4 + (fdC f).length)).toArray = w.drew.setRow g cur' ∧ cur'.size = c * 4 ∧ cur'.toList.take ((n + 1) * 4) = (L.take i ++ f :: L.drop i).flatMap fdC from by
    refine ⟨_, rfl, ?_, ?_⟩
    · rw [List.size_toArray, List.length_append, List.length_append, List.length_take, List.length_drop, Array.length_toList, hsz1]; show min (i * 4) (c * 4) + 4 + (c * 4 - (i * 4 + 4)) = _; omega
    · have e : cur1.toList = cur.toList.take ((i + 1) * 4) ++ (L.flatMap fdC).drop (i * 4) ++ cur.toList.drop ((i + 1) * 4 + ((L.flatMap fdC).drop (i * 4)).length) := by rw [hcur1]
      rw [List.toList_toArray, e, hins, List.flatMap_append, List.flatMap_cons, take_flat fdC_len, drop_flat fdC_len, List.append_assoc])
  obtain ⟨W2, hW2⟩ : ∃ W2, W2 = w.drew.setRow g (cur1.toList.take (i * 4) ++ fdC f ++ cur1.toList.drop (i * 4 + (fdC f).length)).toArray := ⟨_, rfl⟩
  rw [← hW2] at hcp2 HFin
  obtain ⟨W1, hW1⟩ : ∃ W1, W1 = w.drew.setRow g cur1 := ⟨_, rfl⟩
  rw [← hW1] at hcp1 hcp2
  clear hW1 hW2 hins hdc hdl hxl hg1 hv1 hsz1 hcur1 hone hadd hns hL hl hcs hv hg
  have hw1 : IntKind.i64.wrap ((i : Int) + 1) = (i : Int) + 1 := IntWalk.i64_in _ (by omega)
  have hb1 : (0 : Int) ≤ (i : Int) + 1 := by omega
  have htn : ((i : Int) + 1).toNat = i + 1 := by omega
  have hb3 : (i : Int) ≤ (n : Int) := by omega
  have hb5 : (i : Int) + 1 ≤ (n : Int) + 1 := by omega
  have hb6 : (i : Int) ≤ (n : Int) + 1 := by omega
  have hb7 : i + 1 ≤ n + 1 := by omega
  go_enter Tryz.func52, Tryz.ntmps52
  go_wp2_with (simp only [hov])
  go_region_law (refine step_copy_run rfl _ _ 22 22 rfl _ _ (by simp [Act.eval, Act.put]) (by simp [Act.eval, Act.put]) (hcp1 _ _ _) ?_)
  go_wp2_with (at_builtin; refine wpList_copy_run _ rfl _ _ 22 22 rfl _ _ rfl rfl (hcp2 _ _) ?_)
  go_ret
  exact ⟨rfl, HFin.out⟩
theorem grown_drew {w w1 : World} {row : Option Nat} (h : w.grownBy w1 row) : w.grownBy w1.drew row := ⟨h.os, h.tape, h.output, h.size, h.block⟩
theorem setRow_size (w : World) (g : Nat) (cs : Array Value) : (w.setRow g cs).heap.size = w.heap.size := by unfold World.setRow; simp
theorem grown_setRow {w w1 : World} {row : Option Nat} (h : w.grownBy w1 row) (k : Nat) (cs : Array Value) (hk : w.heap.size ≤ k ∨ row = some k) : w.grownBy (w1.setRow k cs) row := by
  refine ⟨h.os, h.tape, h.output, by rw [setRow_size]; exact h.size, fun j hj hne => ?_⟩
  rw [setRow_other _ _ _ _ (fun e => ?_)]
  · exact h.block j hj hne
  · subst e
    rcases hk with hk | hk
    · omega
    · exact hne hk.symm
/-- the rows of an insertion into a new row -/
theorem ins_row2 (xs fs : List Value) (row : List Value) (n i : Nat) (hi : i ≤ n) (hxl : xs.length = n * 4) (hlen : (n + 1) * 4 ≤ row.length) (hx : row.take (i * 4) = xs.take (i * 4)) (hf : fs.length = 4) :
    (((row.take (i * 4) ++ fs ++ row.drop (i * 4 + fs.length)).take ((i + 1) * 4) ++ xs.drop (i * 4) ++ (row.take (i * 4) ++ fs ++ row.drop (i * 4 + fs.length)).drop ((i + 1) * 4 + (xs.drop (i * 4)).length)).take ((n + 1) * 4)) = xs.take (i * 4) ++ fs ++ xs.drop (i * 4) := by
  have hdl : (xs.drop (i * 4)).length = (n - i) * 4 := by rw [List.length_drop, hxl]; omega
  have e1 : (row.take (i * 4) ++ fs ++ row.drop (i * 4 + fs.length)).take ((i + 1) * 4) = xs.take (i * 4) ++ fs := by
    rw [List.take_left' (by rw [List.length_append, List.length_take, hf]; omega), hx]
  rw [e1, List.take_left' (by rw [List.length_append, List.length_append, List.length_take, hdl, hf, hxl]; omega)]
set_option maxHeartbeats 3200000 in
set_option maxRecDepth 100000 in
theorem fins_grow (g n i vb : Nat) (L : List Fd) (f : Fd) (cur : Array Value) (w : World) (hi : i < n) (hn : n ≤ 1000000)
    (hg : w.heap[g]? = some (.cells cur 49 (0, 0))) (hL : cur.toList.take (n * 4) = L.flatMap fdC) (hl : L.length = n)
    (hv : w.heap[vb]? = some (.cells (fdC f).toArray 49 (0, 0))) :
    Calls Tryz.prog 52 #[.slice (some ⟨g, 0, none⟩) n n, .int .i64 i, .slice (some ⟨vb, 0, none⟩) 1 1] w fun e w' =>
      ∃ (c' : Nat) (cur' : Array Value), e = .returned (.slice (some ⟨w.heap.size, 0, none⟩) (n + 1) c') ∧ n + 1 ≤ c' ∧ c' ≤ maxLen ∧ w'.heap[w.heap.size]? = some (.cells cur' 49 (0, 0)) ∧ cur'.size = c' * 4 ∧ cur'.toList.take ((n + 1) * 4) = (L.take i ++ f :: L.drop i).flatMap fdC ∧ w.grownBy w' none := by
  obtain ⟨i0, hi0, hz0, hz1, hz2⟩ := info_parts fdInfo
  have hns : (Tryz.prog.info? 49).map (·.size) = some 4 := by kernel_rfl
  have hgl : g < w.heap.size := (Array.getElem?_eq_some_iff.1 hg).1
  have hvl : vb < w.heap.size := (Array.getElem?_eq_some_iff.1 hv).1
  have hadd : ∀ (b o j : Nat), (⟨b, o, none⟩ : Addr).add j = ⟨b, o + j, none⟩ := fun b o j => by unfold Addr.add; split <;> simp_all
  have hxl : (L.flatMap fdC).length = n * 4 := by rw [row_len fdC_len, hl]
  have hdl : ((L.flatMap fdC).drop (i * 4)).length = (n - i) * 4 := by rw [List.length_drop, hxl]; omega
  have hcell : ∀ k v, k < n * 4 → (L.flatMap fdC)[k]? = some v → w.cell? ⟨g, k, none⟩ = some v := fun k v hk hj => by
    rw [← hL, List.getElem?_take, if_pos hk] at hj
    simp [World.cell?, hg]
    simpa using hj
  have hone := row_one fdC_one L
  have hik : i + (n + 1 - i) = n + 1 := by omega
  have hkk : (n : Int) + 1 - (i : Int) = ((n + 1 - i : Nat) : Int) := by omega
  have hold : (Builtin.firstCells i0.size i (.slice (some ⟨g, 0, none⟩) i n)).run Tryz.prog w.drew = .ok ((L.flatMap fdC).take (i * 4)).toArray w.drew := by
    rw [hz1]
    exact run_firstCells_some w.drew 4 i ⟨g, 0, none⟩ i n ((L.flatMap fdC).take (i * 4)) (by rw [List.length_take, hxl]; omega) (fun j v hj => by
      rw [hadd, Nat.zero_add]
      rw [List.getElem?_take] at hj
      split at hj
      · exact hcell j v (by omega) hj
      · cases hj)
  obtain ⟨G, hG⟩ : ∃ G, G = grownCap w (n + 1) n 49 := ⟨_, rfl⟩
  have hrz : ∀ ty, (Builtin.append_ #[22, 3] ty #[.slice (some ⟨g, 0, none⟩) i n, .int .i64 ((n : Int) + 1 - (i : Int))]).run Tryz.prog w =
      .ok (.slice (some ⟨w.heap.size, 0, none⟩) (n + 1) G) (w.drew.alloc (.cells (((L.flatMap fdC).take (i * 4)).toArray ++ Builtin.zeroCells (Value.agg #[.string ⟨#[]⟩, .int .i64 0, .int .i64 0, .string ⟨#[]⟩]).cells (n + 1 - i) ++ Builtin.zeroCells (Value.agg #[.string ⟨#[]⟩, .int .i64 0, .int .i64 0, .string ⟨#[]⟩]).cells (G - (n + 1))) 49)) := fun ty => by
    have h := Lib.run_append_grow_zeros w 22 3 ty 49 i0 _ .i64 .i64 Tryz.underlying22 Tryz.underlying3 hi0 hz0 (some ⟨g, 0, none⟩) i n ((L.flatMap fdC).take (i * 4)) hold (n + 1 - i) (by omega) (by omega) (by omega) (by omega) (by rw [hz2]; omega) (by rw [hz2, hik]; exact growslice_fits (by omega) (by omega))
    rw [hik] at h
    rw [hkk, hG]
    exact h
  have hGn : n + 1 ≤ G := by rw [hG]; exact grownCap_ge w _ _ _
  have hG63 : G ≤ maxLen := by rw [hG]; exact grownCap_le_maxLen w (n + 1) n 49 (by unfold maxLen; omega)
  clear hG
  obtain ⟨ROW, hROW⟩ : ∃ ROW : Array Value, ROW = ((L.flatMap fdC).take (i * 4)).toArray ++ Builtin.zeroCells (Value.agg #[.string ⟨#[]⟩, .int .i64 0, .int .i64 0, .string ⟨#[]⟩]).cells (n + 1 - i) ++ Builtin.zeroCells (Value.agg #[.string ⟨#[]⟩, .int .i64 0, .int .i64 0, .string ⟨#[]⟩]).cells (G - (n + 1)) := ⟨_, rfl⟩
  rw [← hROW] at hrz
  have hzc : ∀ k, (Builtin.zeroCells (Value.agg #[.string ⟨#[]⟩, .int .i64 0, .int .i64 0, .string ⟨#[]⟩]).cells k).size = k * 4 := fun k => by simp [Builtin.zeroCells, Value.cells]
  have hRl : ROW.size = G * 4 := by
    rw [hROW, Array.size_append, Array.size_append, hzc, hzc, List.size_toArray, List.length_take, hxl]; omega
  have hRt : ROW.toList.take (i * 4) = (L.flatMap fdC).take (i * 4) := by
    rw [hROW, Array.toList_append, Array.toList_append, List.append_assoc, List.toList_toArray, List.take_left' (by rw [List.length_take, hxl]; omega)]
  obtain ⟨cur1, hcur1⟩ : ∃ cur1 : Array Value, cur1 = (ROW.toList.take (i * 4) ++ fdC f ++ ROW.toList.drop (i * 4 + (fdC f).length)).toArray := ⟨_, rfl⟩
  have hsz1 : cur1.size = G * 4 := by
    rw [hcur1, List.size_toArray, List.length_append, List.length_append, List.length_take, List.length_drop, Array.length_toList, hRl]; show min (i * 4) (G * 4) + 4 + (G * 4 - (i * 4 + 4)) = _; omega
  obtain ⟨cur2, hcur2⟩ : ∃ cur2 : Array Value, cur2 = (cur1.toList.take ((i + 1) * 4) ++ (L.flatMap fdC).drop (i * 4) ++ cur1.toList.drop ((i + 1) * 4 + ((L.flatMap fdC).drop (i * 4)).length)).toArray := ⟨_, rfl⟩
  have hsz2 : cur2.size = G * 4 := by
    rw [hcur2, List.size_toArray, List.length_append, List.length_append, hdl, List.length_take, List.length_drop, Array.length_toList, hsz1]; omega
  have hfin : cur2.toList.take ((n + 1) * 4) = (L.take i ++ f :: L.drop i).flatMap fdC := by
    have h := ins_row2 (L.flatMap fdC) (fdC f) ROW.toList n i (by omega) hxl (by rw [Array.length_toList, hRl]; omega) hRt rfl
    rw [hcur2, hcur1, List.toList_toArray, List.toList_toArray, h, List.flatMap_append, List.flatMap_cons, take_flat fdC_len, drop_flat fdC_len, List.append_assoc]
  have hcpA : ∀ (W : World), W.heap[w.heap.size]? = some (.cells ROW 49 (0, 0)) → W.heap[vb]? = some (.cells (fdC f).toArray 49 (0, 0)) → ∀ ty dc, (Builtin.copy_ #[22, 22] ty #[.slice (some ⟨w.heap.size, i * 4, none⟩) (n + 1 - i) dc, .slice (some ⟨vb, 0, none⟩) 1 1]).run Tryz.prog W = .ok (goInt (1 : Nat)) (W.setRow w.heap.size cur1) := fun W hN hV ty dc => by
    rw [hcur1]
    exact run_copy_rowK W 22 22 ty 49 4 w.heap.size (i * 4) 1 (n + 1 - i) dc ⟨vb, 0, none⟩ 1 1 ROW 49 (fdC f) Tryz.underlying22 hns hN
      (by simp only [Nat.min_def]; split <;> omega) rfl (fun j v hj => by rw [hadd, Nat.zero_add]; simp [World.cell?, hV]; exact hj) (by rw [hRl]; show i * 4 + 4 ≤ _; omega) (fdC_one f)
  have hcpB : ∀ (W : World), W.heap[w.heap.size]? = some (.cells cur1 49 (0, 0)) → W.heap[g]? = some (.cells cur 49 (0, 0)) → ∀ ty dc sc, (Builtin.copy_ #[22, 22] ty #[.slice (some ⟨w.heap.size, (i + 1) * 4, none⟩) (n - i) dc, .slice (some ⟨g, i * 4, none⟩) (n - i) sc]).run Tryz.prog W = .ok (goInt (n - i : Nat)) (W.setRow w.heap.size cur2) := fun W hN hV ty dc sc => by
    rw [hcur2]
    exact run_copy_rowK W 22 22 ty 49 4 w.heap.size ((i + 1) * 4) (n - i) (n - i) dc ⟨g, i * 4, none⟩ (n - i) sc cur1 49 _ Tryz.underlying22 hns hN
      (by simp only [Nat.min_def]; split <;> omega) hdl (fun j v hj => by
        have hlt : i * 4 + j < n * 4 := by
          rcases Nat.lt_or_ge j ((L.flatMap fdC).drop (i * 4)).length with h | h
          · rw [hdl] at h; omega
          · rw [List.getElem?_eq_none h] at hj; cases hj
        rw [List.getElem?_drop, ← hL, List.getElem?_take, if_pos hlt] at hj
        rw [hadd]
        simp [World.cell?, hV]
        simpa using hj) (by rw [hdl, hsz1]; omega) (fun v hv => hone v (List.mem_of_mem_drop hv))
  have hN1 : (w.drew.alloc (.cells ROW 49)).heap[w.heap.size]? = some (.cells ROW 49 (0, 0)) := heap_alloc_new w.drew _
  have hV1 : (w.drew.alloc (.cells ROW 49)).heap[vb]? = some (.cells (fdC f).toArray 49 (0, 0)) := by rw [Below.heap_alloc w.drew _ vb hvl]; exact hv
  have hG1 : (w.drew.alloc (.cells ROW 49)).heap[g]? = some (.cells cur 49 (0, 0)) := by rw [Below.heap_alloc w.drew _ g hgl]; exact hg
  have hN2 : ((w.drew.alloc (.cells ROW 49)).setRow w.heap.size cur1).heap[w.heap.size]? = some (.cells cur1 49 (0, 0)) := setRow_heap _ _ _ _ _ _ hN1
  have hG2 : ((w.drew.alloc (.cells ROW 49)).setRow w.heap.size cur1).heap[g]? = some (.cells cur 49 (0, 0)) := by rw [setRow_other _ _ _ _ (by omega)]; exact hG1
  have HFin := Lib.hid (show ∀ W' : World, W'.heap = (((w.drew.alloc (.cells ROW 49)).setRow w.heap.size cur1).setRow w.heap.size cur2).heap → W'.os = w.os → W'.tape = w.tape → W'.output = w.output → W'.heap[w.heap.size]? = some (.cells cur2 49 (0, 0)) ∧ w.grownBy W' none from fun W' h h2 h3 h4 => by
    have hgr : w.grownBy (((w.drew.alloc (.cells ROW 49)).setRow w.heap.size cur1).setRow w.heap.size cur2) none :=
      grown_setRow (grown_setRow (show w.grownBy (w.drew.alloc (.cells ROW 49)) none from ⟨rfl, rfl, rfl, by simp, fun k hk _ => Below.heap_alloc w.drew _ k hk⟩) _ _ (.inl (Nat.le_refl _))) _ _ (.inl (Nat.le_refl _))
    refine ⟨by rw [h]; exact setRow_heap _ _ _ _ _ _ hN2, h2, h3, h4, by rw [h]; exact hgr.size, fun k hk hne => by rw [h]; exact hgr.block k hk hne⟩)
  have hG63i : G ≤ 9223372036854775807 := hG63
  have hcpA2 : ∀ (W : World), W.heap = (w.drew.alloc (.cells ROW 49)).heap → ∀ ty dc, (Builtin.copy_ #[22, 22] ty #[.slice (some ⟨w.heap.size, i * 4, none⟩) (n + 1 - i) dc, .slice (some ⟨vb, 0, none⟩) 1 1]).run Tryz.prog W = .ok (goInt (1 : Nat)) (W.setRow w.heap.size cur1) :=
    fun W h => hcpA W (by rw [h]; exact hN1) (by rw [h]; exact hV1)
  have hcpB2 : ∀ (W : World), W.heap = ((w.drew.alloc (.cells ROW 49)).setRow w.heap.size cur1).heap → ∀ ty dc sc, (Builtin.copy_ #[22, 22] ty #[.slice (some ⟨w.heap.size, (i + 1) * 4, none⟩) (n - i) dc, .slice (some ⟨g, i * 4, none⟩) (n - i) sc]).run Tryz.prog W = .ok (goInt (n - i : Nat)) (W.setRow w.heap.size cur2) :=
    fun W h => hcpB W (by rw [h]; exact hN2) (by rw [h]; exact hG2)
  have hGi : ¬ (G = i) := by omega
  have hGim : ¬ (G = i + 1) := by omega
  have hni : ¬ (n = i) := by omega
  have hz2' : ¬ ((i : Int) = (n : Int)) := by omega
  have hw1 : IntKind.i64.wrap ((i : Int) + 1) = (i : Int) + 1 := IntWalk.i64_in _ (by omega)
  have hb1 : (0 : Int) ≤ (i : Int) + 1 := by omega
  have htn : ((i : Int) + 1).toNat = i + 1 := by omega
  have hb3 : (i : Int) ≤ (n : Int) := by omega
  have hb5 : (i : Int) + 1 ≤ (n : Int) + 1 := by omega
  have hb6 : (i : Int) ≤ (n : Int) + 1 := by omega
  have hb7 : i + 1 ≤ n + 1 := by omega
  have hin : i ≤ n := by omega
  have hcpA3 : ∀ ty dc, (Builtin.copy_ #[22, 22] ty #[.slice (some ⟨w.heap.size, i * 4, none⟩) (n + 1 - i) dc, .slice (some ⟨vb, 0, none⟩) 1 1]).run Tryz.prog (w.alloc (.cells ROW 49)).drew = .ok (goInt (1 : Nat)) ((w.alloc (.cells ROW 49)).drew.setRow w.heap.size cur1) := hcpA2 _ rfl
  have hcpB3 : ∀ ty dc sc, (Builtin.copy_ #[22, 22] ty #[.slice (some ⟨w.heap.size, (i + 1) * 4, none⟩) (n - i) dc, .slice (some ⟨g, i * 4, none⟩) (n - i) sc]).run Tryz.prog ((w.alloc (.cells ROW 49)).drew.setRow w.heap.size cur1).drew = .ok (goInt (n - i : Nat)) (((w.alloc (.cells ROW 49)).drew.setRow w.heap.size cur1).drew.setRow w.heap.size cur2) := hcpB2 _ rfl
  clear hcpA2 hcpB2
  have HQ := Lib.hid (And.intro hsz2 (And.intro hfin (And.intro hGn hG63)))
  clear hkk hik hold hROW hzc hRl hRt hcur1 hcur2 hsz1 hsz2 hfin hN1 hV1 hG1 hN2 hG2 hcell hone hadd hns hdl hxl hg hv hL hl hi0 hz0 hz1 hz2 hG63 hcpA hcpB
  go_enter Tryz.func52, Tryz.ntmps52
  go_wp2_with (first
    | (at_builtin; refine Lib.wpList_append_run _ rfl _ _ _ _ rfl _ _ rfl rfl _ _ (hrz _) ?_)
    | (at_builtin; refine wpList_copy_run _ rfl _ _ 22 22 rfl _ _ rfl rfl (hcpA3 _ _) ?_))
  go_region_law (refine step_copy_run rfl _ _ 22 22 rfl _ _ (by simp [Act.eval, Act.put]) (by simp [Act.eval, Act.put]) (hcpB3 _ _ _) ?_)
  go_wp2_with fail
  go_ret
  obtain ⟨q1, q2, q3, q4⟩ := HQ.out
  obtain ⟨q5, q6⟩ := HFin.out (((w.alloc (.cells ROW 49)).drew.setRow w.heap.size cur1).drew.setRow w.heap.size cur2) rfl rfl rfl rfl
  exact ⟨G, cur2, rfl, q3, q4, q5, q1, q2, q6⟩
set_option maxHeartbeats 3200000 in
set_option maxRecDepth 100000 in
theorem fins_end (b n vb : Nat) (A : Option Addr) (c : Nat) (L : List Fd) (f : Fd) (w : World) (hn : n ≤ 1000000) (hnc : n ≤ c) (hc : c ≤ 9223372036854775807) (hA : A = none → n = 0) (hA2 : ∀ ad, A = some ad → ad = ⟨ad.block, 0, none⟩)
    (h : w.ownsRow b 49 4 (.slice A n c) n (L.flatMap fdC)) (hb : b ≤ w.heap.size)
    (hv : w.heap[vb]? = some (.cells (fdC f).toArray 49 (0, 0))) :
    Calls Tryz.prog 52 #[.slice A n c, .int .i64 n, .slice (some ⟨vb, 0, none⟩) 1 1] w fun e w' =>
      ∃ v', e = .returned v' ∧ w'.ownsRow b 49 4 v' (n + 1) (L.flatMap fdC ++ fdC f) ∧ w.grownBy w' (Value.slice A n c).ownBlock := by
  obtain ⟨i0, hi0, hz0, hz1, hz2⟩ := info_parts fdInfo
  have HI := Lib.hid (And.intro hi0 (And.intro hz0 (And.intro hz1 hz2)))
  have H := Lib.hid h
  have HV := Lib.hid (show ∀ j u, (fdC f)[j]? = some u → w.cell? ((⟨vb, 0, none⟩ : Addr).add j) = some u from fun j u hj => by
    have e : (⟨vb, 0, none⟩ : Addr).add j = ⟨vb, j, none⟩ := by unfold Addr.add; split <;> simp_all
    rw [e]; simp [World.cell?, hv]; exact hj)
  have hni : (n : Int) ≤ (c : Int) := by omega
  clear hi0 hz0 hz1 hz2 h hv
  cases A with
  | none =>
    obtain rfl := hA rfl
    clear hA hA2
    go_enter Tryz.func52, Tryz.ntmps52
    go_wp2_with (at_builtin; refine wpList_append_own _ rfl _ _ 22 rfl b 49 i0 (.agg #[.string ⟨#[]⟩, .int .i64 0, .int .i64 0, .string ⟨#[]⟩]) 4 48 Tryz.underlying22 HI.out.1 HI.out.2.1 HI.out.2.2.1 HI.out.2.2.2 rfl (by decide) (.slice none 0 c) _ _ rfl H.out ⟨vb, 0, none⟩ 1 1 (fdC f) rfl rfl HV.out (fdC_one f) ?a3 ?a4 hb ?_)
    case a3 => unfold maxLen; omega
    case a4 => omega
    intro v' w4 hown hgrow _
    have HOw := Lib.hid hown
    have HG := Lib.hid hgrow
    clear hown hgrow
    go_wp2_with fail
    go_ret
    exact ⟨_, rfl, HOw.out, HG.out⟩
  | some ad =>
    have had := hA2 ad rfl
    obtain ⟨g, ao, ap⟩ := ad
    cases had
    clear hA hA2
    by_cases hcn : c = n
    · subst hcn
      go_enter Tryz.func52, Tryz.ntmps52
      go_wp2_with (at_builtin; refine wpList_append_own _ rfl _ _ 22 rfl b 49 i0 (.agg #[.string ⟨#[]⟩, .int .i64 0, .int .i64 0, .string ⟨#[]⟩]) 4 48 Tryz.underlying22 HI.out.1 HI.out.2.1 HI.out.2.2.1 HI.out.2.2.2 rfl (by decide) (.slice (some ⟨g, 0, none⟩) c c) _ _ rfl H.out ⟨vb, 0, none⟩ 1 1 (fdC f) rfl rfl HV.out (fdC_one f) ?b3 ?b4 hb ?_)
      case b3 => unfold maxLen; omega
      case b4 => omega
      intro v' w4 hown hgrow _
      have HOw := Lib.hid hown
      have HG := Lib.hid hgrow
      clear hown hgrow
      go_wp2_with fail
      go_ret
      exact ⟨_, rfl, HOw.out, HG.out⟩
    · go_enter Tryz.func52, Tryz.ntmps52
      go_wp2_with (at_builtin; refine wpList_append_own _ rfl _ _ 22 rfl b 49 i0 (.agg #[.string ⟨#[]⟩, .int .i64 0, .int .i64 0, .string ⟨#[]⟩]) 4 48 Tryz.underlying22 HI.out.1 HI.out.2.1 HI.out.2.2.1 HI.out.2.2.2 rfl (by decide) (.slice (some ⟨g, 0, none⟩) n c) _ _ rfl H.out ⟨vb, 0, none⟩ 1 1 (fdC f) rfl rfl HV.out (fdC_one f) ?d3 ?d4 hb ?_)
      case d3 => unfold maxLen; omega
      case d4 => omega
      intro v' w4 hown hgrow _
      have HOw := Lib.hid hown
      have HG := Lib.hid hgrow
      clear hown hgrow
      go_wp2_with fail
      go_ret
      exact ⟨_, rfl, HOw.out, HG.out⟩
/-- Insert of one field into a row of one's own -/
theorem finsert_any (b n i vb : Nat) (v : Value) (L : List Fd) (f : Fd) (w : World) (hi : i ≤ n) (hn : n ≤ 1000000)
    (h : w.ownsRow b 49 4 v n (L.flatMap fdC)) (hb : b ≤ w.heap.size) (hv : w.heap[vb]? = some (.cells (fdC f).toArray 49 (0, 0))) (hne : v.ownBlock ≠ some vb) :
    Calls Tryz.prog 52 #[v, .int .i64 i, .slice (some ⟨vb, 0, none⟩) 1 1] w fun e w' =>
      ∃ v', e = .returned v' ∧ w'.ownsRow b 49 4 v' (n + 1) ((L.take i ++ f :: L.drop i).flatMap fdC) ∧ w.grownBy w' v.ownBlock := by
  have hl := h.1
  rw [row_len fdC_len] at hl
  have hln : L.length = n := by omega
  rcases h.2 with ⟨rfl, rfl⟩ | ⟨g, c, cur, rfl, hg1, hg, hnc, hc, hcs, hL⟩
  · obtain rfl : i = 0 := by omega
    have hL0 : L = [] := List.eq_nil_of_length_eq_zero hln
    subst hL0
    refine (fins_end b 0 vb none 0 [] f w (by omega) (by omega) (by omega) (fun _ => rfl) (fun ad e => by cases e) h hb hv).mono ?_
    rintro e w' ⟨v', he, ho, hgr⟩
    exact ⟨v', he, by simpa using ho, hgr⟩
  · by_cases e : i = n
    · subst e
      refine (fins_end b i vb (some ⟨g, 0, none⟩) c L f w hn hnc hc (fun e => by cases e) (fun ad e => by cases e; rfl) h hb hv).mono ?_
      rintro e w' ⟨v', he, ho, hgr⟩
      refine ⟨v', he, ?_, hgr⟩
      rw [List.take_of_length_le (by omega), List.drop_eq_nil_of_le (by omega), List.flatMap_append, List.flatMap_cons, List.flatMap_nil, List.append_nil]
      exact ho
    · have hlt : i < n := by omega
      have hbg : vb ≠ g := fun e => hne (by rw [e]; rfl)
      have hL2 : (L.take i ++ f :: L.drop i).length = n + 1 := by simp; omega
      by_cases hr : n + 1 ≤ c
      · refine (fins_room g n c i vb L f cur w hlt hr hn hc hg hcs hL hln hv hbg).mono ?_
        rintro e w' ⟨he, cur', rfl, hs', ht'⟩
        refine ⟨_, he, ⟨by rw [row_len fdC_len, hL2], .inr ⟨g, c, cur', rfl, hg1, setRow_heap w.drew g cur cur' _ _ hg, hr, hc, hs', ht'⟩⟩, ?_⟩
        exact grown_setRow (show w.grownBy w.drew (some g) from ⟨rfl, rfl, rfl, Nat.le_refl _, fun _ _ _ => rfl⟩) g cur' (.inr rfl)
      · obtain rfl : c = n := by omega
        refine (fins_grow g c i vb L f cur w hlt hn hg hL hln hv).mono ?_
        rintro e w' ⟨c', cur', he, hc1, hc2, hh, hs', ht', hgr⟩
        refine ⟨_, he, ⟨by rw [row_len fdC_len, hL2], .inr ⟨w.heap.size, c', cur', rfl, hb, hh, hc1, hc2, hs', ht'⟩⟩, hgr.os, hgr.tape, hgr.output, hgr.size, fun k hk _ => hgr.block k hk (by simp)⟩
end
section
open Go.RowKit

/-- what With answers -/
def wiR (e : Ev) (nm : ByteArray) (v : Vl) : Except Nat Ev := if (e.ok && (v.ok && isNameB nm.data.toList)) = true then (if 8 < (setF e.d nm v).length then .error 5 else .ok ⟨e.c, e.a, e.r, e.life, e.time, setF e.d nm v⟩) else .error 1
theorem wiR_bad {e : Ev} {nm : ByteArray} {v : Vl} (h : e.ok = false ∨ v.ok = false ∨ isNameB nm.data.toList = false) : wiR e nm v = .error 1 := by
  unfold wiR
  rw [if_neg]
  intro h2
  simp only [Bool.and_eq_true] at h2
  obtain ⟨h3, h4, h5⟩ := h2
  rcases h with h | h | h
  · rw [h3] at h; cases h
  · rw [h4] at h; cases h
  · rw [h5] at h; cases h
theorem wiR_full {e : Ev} {nm : ByteArray} {v : Vl} (h1 : e.ok = true) (h2 : v.ok = true) (h3 : isNameB nm.data.toList = true) (h : 8 < (setF e.d nm v).length) : wiR e nm v = .error 5 := by
  unfold wiR; rw [h1, h2, h3, if_pos (show (true && (true && true)) = true from rfl), if_pos h]
theorem wiR_ok {e : Ev} {nm : ByteArray} {v : Vl} (h1 : e.ok = true) (h2 : v.ok = true) (h3 : isNameB nm.data.toList = true) (h : (setF e.d nm v).length ≤ 8) : wiR e nm v = .ok ⟨e.c, e.a, e.r, e.life, e.time, setF e.d nm v⟩ := by
  unfold wiR; rw [h1, h2, h3, if_pos (show (true && (true && true)) = true from rfl), if_neg (by omega)]
/-- while With runs: the blocks of the event, of the value, of the result; the fields -/
def WiS (w wr : World) (e : Ev) (A : Option Addr) (n cap : Nat) (v : Vl) : Prop := EB wr w.heap.size e A n cap ∧ VB wr (w.heap.size + 1) v ∧ EB wr (w.heap.size + 2) ev0 none 0 0 ∧ FdIn wr A e.d ∧ Below w.heap.size w wr
section
variable {w wr w' : World} {e : Ev} {A : Option Addr} {n cap : Nat} {v : Vl}
theorem WiS.below (h : WiS w wr e A n cap v) (hb : Below wr.heap.size wr w') : WiS w w' e A n cap v := ⟨h.1.below hb, VB.below h.2.1 hb, h.2.2.1.below hb, h.2.2.2.1.below hb, below_then h.2.2.2.2 hb⟩
theorem WiS.eb (h : WiS w wr e A n cap v) : EB wr w.heap.size e A n cap := h.1
theorem WiS.vb (h : WiS w wr e A n cap v) : VB wr (w.heap.size + 1) v := h.2.1
theorem WiS.rb (h : WiS w wr e A n cap v) : EB wr (w.heap.size + 2) ev0 none 0 0 := h.2.2.1
theorem WiS.fd (h : WiS w wr e A n cap v) : FdIn wr A e.d := h.2.2.2.1
theorem WiS.bel (h : WiS w wr e A n cap v) : Below w.heap.size w wr := h.2.2.2.2
theorem WiS.size (h : WiS w wr e A n cap v) : w.heap.size + 3 ≤ wr.heap.size := by have := h.rb.lt; omega
end
theorem WiS.new (w : World) (e : Ev) (A : Option Addr) (n cap : Nat) (v : Vl) (h : FdIn w A e.d) :
    WiS w (((w.alloc (.cells #[.string e.c, .string e.a, .string e.r, .int .i64 e.life, .int .i64 e.time, .slice A n cap] 24)).alloc (.cells #[.int .i64 v.k, .int .i64 v.n, .string v.s] 39)).alloc (.cells #[.string ⟨#[]⟩, .string ⟨#[]⟩, .string ⟨#[]⟩, .int .i64 0, .int .i64 0, .slice none 0 0] 24)) e A n cap v := by
  have h1 := VB.new (w.alloc (.cells #[.string e.c, .string e.a, .string e.r, .int .i64 e.life, .int .i64 e.time, .slice A n cap] 24)) v
  rw [World.size_alloc] at h1
  have h2 := EB.new ((w.alloc (.cells #[.string e.c, .string e.a, .string e.r, .int .i64 e.life, .int .i64 e.time, .slice A n cap] 24)).alloc (.cells #[.int .i64 v.k, .int .i64 v.n, .string v.s] 39)) ev0 none 0 0
  rw [World.size_alloc, World.size_alloc] at h2
  exact ⟨(EB.new w e A n cap).below (two_boxes _ _ _), VB.below h1 (below_alloc _ _), h2, h.below (below_then (two_boxes w _ _) (below_alloc _ _)), below_then (two_boxes w _ _) (below_alloc _ _)⟩
/-- a value is stored into a field of a row -/
theorem flat_set (v : Vl) : ∀ (L : List Fd) (i : Nat) (h : i < L.length), (((L.flatMap fdC).set (i * 4 + 1) (.int .i64 v.k)).set (i * 4 + 1 + 1) (.int .i64 v.n)).set (i * 4 + 1 + 1 + 1) (.string v.s) = (L.set i ⟨L[i].nm, v⟩).flatMap fdC := by
  intro L
  induction L with
  | nil => intro i h; simp at h
  | cons f L ih =>
    intro i h
    cases i with
    | zero => rfl
    | succ i =>
      have e1 : (i + 1) * 4 + 1 = (fdC f).length + (i * 4 + 1) := by rw [fdC_len]; omega
      have e2 : (i + 1) * 4 + 1 + 1 = (fdC f).length + (i * 4 + 1 + 1) := by rw [fdC_len]; omega
      have e3 : (i + 1) * 4 + 1 + 1 + 1 = (fdC f).length + (i * 4 + 1 + 1 + 1) := by rw [fdC_len]; omega
      have hs : ∀ (xs : List Value) (j : Nat) (u : Value), (fdC f ++ xs).set ((fdC f).length + j) u = fdC f ++ xs.set j u := fun xs j u => by
        rw [List.set_append_right _ _ (by omega), Nat.add_sub_cancel_left]
      rw [List.flatMap_cons, List.set_cons_succ, List.flatMap_cons, List.getElem_cons_succ, ← ih i (by simpa using h), e3, e2, e1, hs, hs, hs]
theorem own_setV {w : World} {b n i : Nat} {L : List Fd} {g c : Nat} (h : w.ownsRow b 49 4 (.slice (some ⟨g, 0, none⟩) n c) n (L.flatMap fdC)) (hi : i < L.length) (hn : L.length = n) (v : Vl) :
    (((w.setCell ⟨g, i * 4 + 1, none⟩ (.int .i64 v.k)).setCell ⟨g, i * 4 + 1 + 1, none⟩ (.int .i64 v.n)).setCell ⟨g, i * 4 + 1 + 2, none⟩ (.string v.s)).ownsRow b 49 4 (.slice (some ⟨g, 0, none⟩) n c) n ((L.set i ⟨L[i].nm, v⟩).flatMap fdC) := by
  show (((w.setCell ⟨g, i * 4 + 1, none⟩ (.int .i64 v.k)).setCell ⟨g, i * 4 + 1 + 1, none⟩ (.int .i64 v.n)).setCell ⟨g, i * 4 + 1 + 1 + 1, none⟩ (.string v.s)).ownsRow _ _ _ _ _ _
  rcases h.2 with ⟨hv, _⟩ | ⟨g', c', cur, hv, hg1, hg, hnc, hc, hcs, hL⟩
  · cases hv
  · cases hv
    have e1 := setCell_eq_setRow w g (i * 4 + 1) cur _ (0, 0) (.int .i64 v.k) hg
    have g1 := setRow_heap w g cur (cur.setIfInBounds (i * 4 + 1) (.int .i64 v.k)) _ (0, 0) hg
    have e2 := setCell_eq_setRow (w.setRow g (cur.setIfInBounds (i * 4 + 1) (.int .i64 v.k))) g (i * 4 + 1 + 1) _ _ (0, 0) (.int .i64 v.n) g1
    have g2 := setRow_heap _ g _ ((cur.setIfInBounds (i * 4 + 1) (.int .i64 v.k)).setIfInBounds (i * 4 + 1 + 1) (.int .i64 v.n)) _ (0, 0) g1
    have e3 := setCell_eq_setRow _ g (i * 4 + 1 + 1 + 1) _ _ (0, 0) (.string v.s) g2
    have g3 := setRow_heap _ g _ (((cur.setIfInBounds (i * 4 + 1) (.int .i64 v.k)).setIfInBounds (i * 4 + 1 + 1) (.int .i64 v.n)).setIfInBounds (i * 4 + 1 + 1 + 1) (.string v.s)) _ (0, 0) g2
    rw [e1, e2, e3]
    refine ⟨by rw [row_len fdC_len, List.length_set, hn], .inr ⟨g, c, _, rfl, hg1, g3, hnc, hc, by simpa using hcs, ?_⟩⟩
    rw [Array.toList_setIfInBounds, Array.toList_setIfInBounds, Array.toList_setIfInBounds, List.take_set, List.take_set, List.take_set, hL, flat_set v L i hi]
theorem own_cell3 {w : World} {b n i : Nat} {L : List Fd} {g c : Nat} (h : w.ownsRow b 49 4 (.slice (some ⟨g, 0, none⟩) n c) n (L.flatMap fdC)) (hi : i < L.length) :
    w.cell? ⟨g, i * 4 + 1, none⟩ = some (.int .i64 L[i].v.k) ∧ w.cell? ⟨g, i * 4 + 1 + 1, none⟩ = some (.int .i64 L[i].v.n) ∧ w.cell? ⟨g, i * 4 + 1 + 2, none⟩ = some (.string L[i].v.s) := by
  have e : ∀ j u, j < 4 → (fdC L[i])[j]? = some u → w.cell? ⟨g, i * 4 + j, none⟩ = some u := fun j u hj hu => by
    have := h.cells (g := g) rfl (i * 4 + j) u (by rw [row_at fdC_len L i j hi hj]; exact hu)
    rwa [show (⟨g, 0, none⟩ : Addr).add (i * 4 + j) = ⟨g, i * 4 + j, none⟩ by unfold Addr.add; split <;> simp_all] at this
  exact ⟨e 1 _ (by omega) rfl, e 2 _ (by omega) rfl, e 3 _ (by omega) rfl⟩
theorem bsetV {B : Nat} {w0 w : World} (h : Below B w0 w) {g o1 o2 o3 : Nat} (hb : B ≤ g) (x0 x1 x2 : Value) : Below B w0 (((w.setCell ⟨g, o1, none⟩ x0).setCell ⟨g, o2, none⟩ x1).setCell ⟨g, o3, none⟩ x2) :=
  ((h.setCell (p := ⟨g, o1, none⟩) hb x0).setCell (p := ⟨g, o2, none⟩) hb x1).setCell (p := ⟨g, o3, none⟩) hb x2
theorem EB.other {w : World} {b : Nat} {e : Ev} {A : Option Addr} {n cap : Nat} (h : EB w b e A n cap) {g o : Nat} (hne : b ≠ g) (u : Value) : EB (w.setCell ⟨g, o, none⟩ u) b e A n cap := by
  unfold EB at h ⊢
  rw [← h]
  show (w.heap.modify g _)[b]? = _
  simp [Array.getElem?_modify, Ne.symm hne]
theorem set_nm (L : List Fd) (nm : ByteArray) (v : Vl) (h : hasF L nm = true) (hp : posF L nm < L.length) : L.set (posF L nm) ⟨L[posF L nm].nm, v⟩ = setF L nm v := by
  obtain ⟨_, e⟩ := hasF_at L nm h
  rw [setF_yes L nm v h, e]
theorem VB.far {w : World} {b : Nat} {v : Vl} (h : VB w b v) {g o : Nat} (hne : b ≠ g) (u : Value) : VB (w.setCell ⟨g, o, none⟩ u) b v := by
  unfold VB at h ⊢
  rw [← h]
  show (w.heap.modify g _)[b]? = _
  simp [Array.getElem?_modify, Ne.symm hne]
theorem own_frozen {w : World} {b n : Nat} {T : TypeId} {K : Nat} {g c : Nat} {xs : List Value} (h : w.ownsRow b T K (.slice (some ⟨g, 0, none⟩) n c) n xs) (o : Nat) : w.frozen? ⟨g, o, none⟩ = false := by
  rcases h.2 with ⟨hv, _⟩ | ⟨g', c', cur, hv, _, hg, _⟩
  · cases hv
  · cases hv; simp [World.frozen?, hg]
theorem EB.grown {w w' : World} {row : Option Nat} {b : Nat} {e : Ev} {A : Option Addr} {n cap : Nat} (h : EB w b e A n cap) (hg : w.grownBy w' row) (hne : some b ≠ row) : EB w' b e A n cap := by
  have hlt := h.lt
  unfold EB at h ⊢
  rw [hg.block b hlt hne]; exact h
/-- what With returns, spelled out -/
theorem ep_ok {R : Except Nat Ev} {w w' : World} {A : Option Addr} {cap m : Nat} (e : Ev) (D : List Fd) (hR : R = .ok ⟨e.c, e.a, e.r, e.life, e.time, D⟩) (hD : D.length = m) (hf : FdIn w' A D) (hb : Below w.heap.size w w') :
    EpPost R w (.returned (.tuple #[.agg #[.string e.c, .string e.a, .string e.r, .int .i64 e.life, .int .i64 e.time, .slice A m cap], .int .i64 0])) w' := by
  subst hD
  exact EpPost.ok (A := A) (cap := cap) hR rfl hf hb
set_option maxHeartbeats 6400000 in
set_option maxRecDepth 100000 in
theorem ewith_any (e : Ev) (A : Option Addr) (n cap : Nat) (nm : ByteArray) (v : Vl) (w : World) (h : FdIn w A e.d) (hn : e.d.length = n) (hn2 : n ≤ 1000000) (hf : e.fit 9223372036854775000) (hnm : nm.size ≤ 9223372036854775000) (hvs : v.s.size ≤ 9223372036854775807) :
    Calls Tryz.prog 19 #[.agg #[.string e.c, .string e.a, .string e.r, .int .i64 e.life, .int .i64 e.time, .slice A n cap], .string nm, .agg #[.int .i64 v.k, .int .i64 v.n, .string v.s]] w (EpPost (wiR e nm v) w) := by
  have HS := Lib.hid (WiS.new w e A n cap v h)
  have HX := Lib.hid (fun w h => evalid_any e A n cap w h hn hn2 hf)
  have HV := Lib.hid (fun w => vvalid_any v w hvs)
  have HI := Lib.hid (fun w => nisName_any nm w hnm)
  have HN := Lib.hid hn
  clear h hf hn hvs hnm
  go_enter Tryz.func19, Tryz.ntmps19
  go_wp2_with fail
  generalize (((w.alloc _).alloc _).alloc _) = w0 at HS ⊢
  ((with_reducible refine (HX.out _ HS.out.fd).mono ?_); rintro x w1 ⟨rfl, hb1⟩)
  replace HS := Lib.hid (HS.out.below hb1)
  clear hb1 HX
  obtain ⟨d0, d1, d2, g0, g1, g2⟩ := HS.out.vb.cells
  cases hok : e.ok with
  | false =>
    have HR := Lib.hid (wiR_bad (nm := nm) (v := v) (.inl hok))
    obtain ⟨c0, c1, c2, c3, c4, c5⟩ := HS.out.rb.cells
    obtain ⟨f0, f1, f2, f3, f4, f5⟩ := HS.out.rb.fr
    simp only [ev0] at c0 c1 c2 c3 c4 c5
    clear hok
    go_wp2_with fail
    exact bodyPost_ret (v := .tuple #[.agg #[.string ⟨#[]⟩, .string ⟨#[]⟩, .string ⟨#[]⟩, .int .i64 0, .int .i64 0, .slice none 0 0], .int .i64 1]) (by simp [results, Tryz.results19, go_sem, c0, c1, c2, c3, c4, c5]) rfl (EpPost.err HR.out rfl (bset6 HS.out.bel (by omega) _ _ _ _ _ _))
  | true =>
    go_wp2_with fail
    ((with_reducible refine (HV.out _).mono ?_); rintro x w2 ⟨rfl, hb2⟩)
    replace HS := Lib.hid (HS.out.below hb2)
    clear hb2 HV d0 d1 d2 g0 g1 g2
    obtain ⟨c0, c1, c2, c3, c4, c5⟩ := HS.out.rb.cells
    obtain ⟨f0, f1, f2, f3, f4, f5⟩ := HS.out.rb.fr
    simp only [ev0] at c0 c1 c2 c3 c4 c5
    cases hvk : v.ok with
    | false =>
      have HR := Lib.hid (wiR_bad (e := e) (nm := nm) (.inr (.inl hvk)))
      clear hok hvk
      go_wp2_with fail
      exact bodyPost_ret (v := .tuple #[.agg #[.string ⟨#[]⟩, .string ⟨#[]⟩, .string ⟨#[]⟩, .int .i64 0, .int .i64 0, .slice none 0 0], .int .i64 1]) (by simp [results, Tryz.results19, go_sem, c0, c1, c2, c3, c4, c5]) rfl (EpPost.err HR.out rfl (bset6 HS.out.bel (by omega) _ _ _ _ _ _))
    | true =>
      go_wp2_with fail
      ((with_reducible refine (HI.out _).mono ?_); rintro x w3 ⟨rfl, rfl⟩)
      cases hin : isNameB nm.data.toList with
      | false =>
        have HR := Lib.hid (wiR_bad (e := e) (v := v) (.inr (.inr hin)))
        clear hok hvk hin
        go_wp2_with fail
        exact bodyPost_ret (v := .tuple #[.agg #[.string ⟨#[]⟩, .string ⟨#[]⟩, .string ⟨#[]⟩, .int .i64 0, .int .i64 0, .slice none 0 0], .int .i64 1]) (by simp [results, Tryz.results19, go_sem, c0, c1, c2, c3, c4, c5]) rfl (EpPost.err HR.out rfl (bset6 HS.out.bel (by omega) _ _ _ _ _ _))
      | true =>
        have hfb : fdsB e.d = true := by unfold Ev.ok at hok; rw [Bool.and_eq_true] at hok; exact hok.2
        have HSo := Lib.hid (sort_of e.d hfb)
        have hd8 : n ≤ 8 := by rw [← HN.out]; exact (ev_head e hok).2.2.2.2
        have HRF := Lib.hid (fun h => wiR_full hok hvk hin h)
        have HRO := Lib.hid (fun h => wiR_ok hok hvk hin h)
        have HC := Lib.hid (fclone_any A n cap e.d w2 HS.out.fd HN.out hn2)
        obtain ⟨x0, x1, x2, x3, x4, x5⟩ := HS.out.eb.cells
        clear hok hvk hin hfb c0 c1 c2 c3 c4 c5 f0 f1 f2 f3 f4 f5
        go_wp2_with fail
        ((with_reducible refine HC.out.mono ?_); rintro x w4 ⟨u, rfl, hown, hb4⟩)
        have HZ := Lib.hid HS.out.size
        replace HS := Lib.hid (HS.out.below hb4)
        have HOw := Lib.hid hown
        obtain ⟨A1, c1, rfl, hfd, _, hnc, hcm⟩ := own_fdin hown
        have hs24 := hb4.size
        clear hown hb4 HC x0 x1 x2 x3 x4 x5 hfd
        obtain ⟨x0, x1, x2, x3, x4, x5⟩ := HS.out.eb.cells
        obtain ⟨y0, y1, y2, y3, y4, y5⟩ := HS.out.eb.fr
        go_wp2_with fail
        have HS5 := Lib.hid (show WiS w (w4.setCell ⟨w.heap.size, 5, none⟩ (.slice A1 n c1)) e A1 n c1 v from by
          have ho := own_setCell (o := 5) HOw.out (by have := HZ.out; omega : w.heap.size < w2.heap.size) (.slice A1 n c1)
          obtain ⟨A', c', hv', hfd, _⟩ := own_fdin ho
          cases hv'
          exact ⟨HS.out.eb.set5 A1 n c1 e.d, VB.far HS.out.vb (by omega) _, HS.out.rb.other (by omega) _, hfd, HS.out.bel.setCell (p := ⟨w.heap.size, 5, none⟩) (Nat.le_refl _) _⟩)
        have HO5 := Lib.hid (own_setCell (o := 5) HOw.out (by have := HZ.out; omega : w.heap.size < w2.heap.size) (.slice A1 n c1))
        have hs25 : w2.heap.size ≤ (w4.setCell ⟨w.heap.size, 5, none⟩ (.slice A1 n c1)).heap.size := by simpa using hs24
        generalize w4.setCell ⟨w.heap.size, 5, none⟩ (.slice A1 n c1) = w5 at *
        have HF := Lib.hid (find_any A1 n c1 e.d nm w5 HS5.out.fd HN.out hn2 HSo.out)
        clear x0 x1 x2 x3 x4 x5 y0 y1 y2 y3 y4 y5 HS HOw
        ((with_reducible refine HF.out.mono ?_); rintro x w6 ⟨rfl, hb6⟩)
        replace HS5 := Lib.hid (HS5.out.below hb6)
        replace HO5 := Lib.hid (own_stays HO5.out hb6)
        have hs26 := Nat.le_trans hs25 hb6.size
        clear hb6 HF
        obtain ⟨x0, x1, x2, x3, x4, x5⟩ := HS5.out.eb.cells
        obtain ⟨y0, y1, y2, y3, y4, y5⟩ := HS5.out.eb.fr
        obtain ⟨d0, d1, d2, g0, g1, g2⟩ := HS5.out.vb.cells
        obtain ⟨k0, k1, k2, k3, k4, k5⟩ := HS5.out.rb.cells
        obtain ⟨f0, f1, f2, f3, f4, f5⟩ := HS5.out.rb.fr
        simp only [ev0] at k0 k1 k2 k3 k4 k5
        have hpl := posF_le e.d nm
        have hz := HZ.out
        have hz6 := HS5.out.size
        cases hh : hasF e.d nm with
        | true =>
          obtain ⟨hp, hq⟩ := hasF_at e.d nm hh
          clear hq
          have hpn : posF e.d nm < n := by rw [← HN.out]; exact hp
          have hlen : (setF e.d nm v).length = n := by rw [setF_len, hh, if_pos rfl, HN.out]
          obtain ⟨_, _, hv1, _, _, _, _, hgx⟩ := own_rd fdC_len (by omega) HO5.out
          cases hv1
          obtain ⟨g, rfl, hg1, hg2⟩ := hgx (by omega)
          have hset := own_setV HO5.out hp HN.out v
          rw [set_nm e.d nm v hh hp] at hset
          have HSet := Lib.hid hset
          obtain ⟨m1, m2, m3⟩ := own_cell3 HO5.out hp
          have hfr := own_frozen HO5.out
          have q1 := hfr (posF e.d nm * 4 + 1)
          have q2 := hfr (posF e.d nm * 4 + 1 + 1)
          have q3 := hfr (posF e.d nm * 4 + 1 + 2)
          have HRK := Lib.hid (HRO.out (by omega))
          have HLen := Lib.hid hlen
          have n1 : ¬ g = w.heap.size := by omega
          have n2 : ¬ w.heap.size = g := by omega
          have n3 : ¬ g = w.heap.size + 1 + 1 := by omega
          have n4 : ¬ w.heap.size + 1 + 1 = g := by omega
          have n5 : ¬ g = w.heap.size + 2 := by omega
          have n6 : ¬ w.heap.size + 2 = g := by omega
          clear hh hset hfr hlen HRO HRF hgx
          generalize e.d[posF e.d nm] = xf at m1 m2 m3
          generalize hpp : posF e.d nm = p at *
          have HPP := Lib.hid hpp
          clear hp hpp
          go_wp2_with fail
          obtain ⟨A', c', hv', hfd, _⟩ := own_fdin (own_set6 HSet.out (show w.heap.size + 2 < w2.heap.size by omega) (.string e.c) (.string e.a) (.string e.r) (.int .i64 e.life) (.int .i64 e.time) (.slice (some ⟨g, 0, none⟩) n c1))
          cases hv'
          have HB := Lib.hid (bset6 (bsetV (o1 := p * 4 + 1) (o2 := p * 4 + 1 + 1) (o3 := p * 4 + 1 + 2) HS5.out.bel (show w.heap.size ≤ g by omega) (.int .i64 v.k) (.int .i64 v.n) (.string v.s)) (show w.heap.size ≤ w.heap.size + 2 by omega) (.string e.c) (.string e.a) (.string e.r) (.int .i64 e.life) (.int .i64 e.time) (.slice (some ⟨g, 0, none⟩) n c1))
          exact bodyPost_ret (v := .tuple #[.agg #[.string e.c, .string e.a, .string e.r, .int .i64 e.life, .int .i64 e.time, .slice (some ⟨g, 0, none⟩) n c1], .int .i64 0]) (by simp [results, Tryz.results19, go_sem, k0, k1, k2, k3, k4, k5]) rfl (ep_ok e _ HRK.out HLen.out hfd HB.out)
        | false =>
          have HLen := Lib.hid (show (setF e.d nm v).length = n + 1 by rw [setF_len, hh, if_neg (by decide), HN.out])
          by_cases h8 : n = 8
          · have HRK := Lib.hid (HRF.out (by rw [HLen.out]; omega))
            have q8 : ((n : Int) == 8) = true := by rw [h8]; rfl
            clear h8 hh HRF HRO
            go_wp2_with fail
            exact bodyPost_ret (v := .tuple #[.agg #[.string ⟨#[]⟩, .string ⟨#[]⟩, .string ⟨#[]⟩, .int .i64 0, .int .i64 0, .slice none 0 0], .int .i64 5]) (by simp [results, Tryz.results19, go_sem, k0, k1, k2, k3, k4, k5]) rfl (EpPost.err HRK.out rfl (bset6 HS5.out.bel (by omega) _ _ _ _ _ _))
          · have HRK := Lib.hid (HRO.out (by rw [HLen.out]; omega))
            have q8 : ((n : Int) == 8) = false := by rw [beq_eq_false_iff_ne]; omega
            have HEq := Lib.hid (setF_no e.d nm v hh)
            have hne : (Value.slice A1 n c1).ownBlock ≠ some w6.heap.size := fun e => by have := (HO5.out.lt _ e).2; omega
            have hpn : posF e.d nm ≤ n := by rw [← HN.out]; exact hpl
            have HFin := Lib.hid (finsert_any w2.heap.size n (posF e.d nm) w6.heap.size (.slice A1 n c1) e.d ⟨nm, v⟩ (w6.alloc (.cells #[.string nm, .int .i64 v.k, .int .i64 v.n, .string v.s] 49)) hpn hn2 (HO5.out.alloc _) (by rw [World.size_alloc]; omega) (heap_alloc_new w6 _) hne)
            have HEb := Lib.hid (HS5.out.eb.below (below_alloc w6 (.cells #[.string nm, .int .i64 v.k, .int .i64 v.n, .string v.s] 49)))
            have HRb := Lib.hid (HS5.out.rb.below (below_alloc w6 (.cells #[.string nm, .int .i64 v.k, .int .i64 v.n, .string v.s] 49)))
            have HBl := Lib.hid (HS5.out.bel.alloc (by omega) (.cells #[.string nm, .int .i64 v.k, .int .i64 v.n, .string v.s] 49))
            have HOb := Lib.hid (HO5.out.lt)
            clear h8 hh HRF HRO hne hpl k0 k1 k2 k3 k4 k5 f0 f1 f2 f3 f4 f5
            generalize hpp : posF e.d nm = p at *
            have HPP := Lib.hid hpp
            clear hpp
            go_wp2_with fail
            ((with_reducible refine HFin.out.mono ?_); rintro x w7 ⟨v', rfl, hown, hgr⟩)
            have HOw := Lib.hid hown
            obtain ⟨A2, c2, rfl, hfd, _, hnc2, hcm2⟩ := own_fdin hown
            have hro : ∀ b, b < w.heap.size + 3 → some b ≠ (Value.slice A1 n c1).ownBlock := fun b hb e => by have := (HOb.out b e.symm).1; omega
            have HE7 := Lib.hid (HEb.out.grown hgr (hro _ (by omega)))
            have HR7 := Lib.hid (HRb.out.grown hgr (hro _ (by omega)))
            have HB7 := Lib.hid (HBl.out.grown hgr (by simp; omega) (fun k hk => by have := (HOb.out k hk).1; omega))
            clear hown hgr hfd hro HFin x0 x1 x2 x3 x4 x5 y0 y1 y2 y3 y4 y5 d0 d1 d2 g0 g1 g2
            obtain ⟨x0, x1, x2, x3, x4, x5⟩ := HE7.out.cells
            obtain ⟨y0, y1, y2, y3, y4, y5⟩ := HE7.out.fr
            obtain ⟨k0, k1, k2, k3, k4, k5⟩ := HR7.out.cells
            obtain ⟨f0, f1, f2, f3, f4, f5⟩ := HR7.out.fr
            simp only [ev0] at k0 k1 k2 k3 k4 k5
            go_wp2_with fail
            have ho := own_set6 (own_setCell (o := 5) HOw.out (show w.heap.size < w2.heap.size by omega) (.slice A2 (n + 1) c2)) (show w.heap.size + 2 < w2.heap.size by omega) (.string e.c) (.string e.a) (.string e.r) (.int .i64 e.life) (.int .i64 e.time) (.slice A2 (n + 1) c2)
            have hq : (List.take p e.d ++ (⟨nm, v⟩ : Fd) :: List.drop p e.d) = setF e.d nm v := HEq.out.symm
            rw [hq] at ho
            obtain ⟨A', c', hv', hfd, _⟩ := own_fdin ho
            cases hv'
            have HB := Lib.hid (bset6 (HB7.out.setCell (p := ⟨w.heap.size, 5, none⟩) (Nat.le_refl _) (.slice A2 (n + 1) c2)) (show w.heap.size ≤ w.heap.size + 2 by omega) (.string e.c) (.string e.a) (.string e.r) (.int .i64 e.life) (.int .i64 e.time) (.slice A2 (n + 1) c2))
            exact bodyPost_ret (v := .tuple #[.agg #[.string e.c, .string e.a, .string e.r, .int .i64 e.life, .int .i64 e.time, .slice A2 (n + 1) c2], .int .i64 0]) (by simp [results, Tryz.results19, go_sem, k0, k1, k2, k3, k4, k5]) rfl (ep_ok e _ HRK.out HLen.out hfd HB.out)
end
section
open Go.RowKit

/-- what stands in the new list after k fields -/
def midF (L : List Fd) (nm : ByteArray) (v : Vl) (k : Nat) (d : Bool) : List Fd := if d then L.take (posF L nm) ++ ⟨nm, v⟩ :: ((L.take k).drop (posF L nm)).filter (fun f => !decide (f.nm = nm)) else L.take k
theorem mid_start (L : List Fd) (nm : ByteArray) (v : Vl) : midF L nm v 0 false = [] := rfl
theorem mid_ahead (L : List Fd) (nm : ByteArray) (v : Vl) (k : Nat) (h : k < L.length) : midF L nm v (k + 1) false = midF L nm v k false ++ [L[k]] := by
  unfold midF
  rw [if_neg (by decide), if_neg (by decide), List.take_succ_eq_append_getElem h]
theorem take_drop_succ (L : List Fd) (p k : Nat) (h : k < L.length) (hp : p ≤ k) : (L.take (k + 1)).drop p = (L.take k).drop p ++ [L[k]] := by
  rw [List.take_succ_eq_append_getElem h, List.drop_append_of_le_length (by rw [List.length_take]; omega)]
theorem mid_at (L : List Fd) (nm : ByteArray) (v : Vl) (k : Nat) (hk : posF L nm = k) : midF L nm v k true = midF L nm v k false ++ [⟨nm, v⟩] := by
  unfold midF
  rw [if_pos rfl, if_neg (by decide), hk, List.drop_eq_nil_of_le (by rw [List.length_take]; omega)]
  rfl
theorem mid_skip (L : List Fd) (nm : ByteArray) (v : Vl) (k : Nat) (h : k < L.length) (hp : posF L nm ≤ k) (e : L[k].nm = nm) : midF L nm v (k + 1) true = midF L nm v k true := by
  unfold midF
  rw [if_pos rfl, if_pos rfl, take_drop_succ L _ k h hp, List.filter_append]
  simp [e]
theorem mid_push (L : List Fd) (nm : ByteArray) (v : Vl) (k : Nat) (h : k < L.length) (hp : posF L nm ≤ k) (e : L[k].nm ≠ nm) : midF L nm v (k + 1) true = midF L nm v k true ++ [L[k]] := by
  unfold midF
  rw [if_pos rfl, if_pos rfl, take_drop_succ L _ k h hp, List.filter_append, List.append_assoc, List.cons_append]
  simp [e]
theorem mid_end (L : List Fd) (hs : SortF L) (nm : ByteArray) (v : Vl) : midF L nm v L.length true = setF L nm v := by
  unfold midF
  rw [if_pos rfl, List.take_length, setF_split L hs]
theorem mid_end2 (L : List Fd) (hs : SortF L) (nm : ByteArray) (v : Vl) (h : posF L nm = L.length) : midF L nm v L.length false ++ [⟨nm, v⟩] = setF L nm v := by
  rw [← mid_at L nm v L.length h, mid_end L hs]
theorem mid_len (L : List Fd) (nm : ByteArray) (v : Vl) (k : Nat) (d : Bool) : (midF L nm v k d).length ≤ L.length + L.length + 1 := by
  unfold midF
  split
  · have h1 := List.length_filter_le (fun f : Fd => !decide (f.nm = nm)) ((L.take k).drop (posF L nm))
    rw [List.length_drop, List.length_take] at h1
    rw [List.length_append, List.length_cons, List.length_take]; omega
  · rw [List.length_take]; omega
/-- while With of the reference runs: the blocks, and the list that is made -/
def WLt (w wr : World) (e : Ev) (A : Option Addr) (n cap : Nat) (v : Vl) (u : Value) (M : List Fd) : Prop := WiS w wr e A n cap v ∧ wr.ownsRow (w.heap.size + 3) 49 4 u M.length (M.flatMap fdC)
section
variable {w wr w' : World} {e : Ev} {A : Option Addr} {n cap : Nat} {v : Vl} {u u' : Value} {M : List Fd}
theorem WLt.s (h : WLt w wr e A n cap v u M) : WiS w wr e A n cap v := h.1
theorem WLt.own (h : WLt w wr e A n cap v u M) : wr.ownsRow (w.heap.size + 3) 49 4 u M.length (M.flatMap fdC) := h.2
theorem WLt.push {o : Obj} {f : Fd} (h : WLt w wr e A n cap v u M) (h0 : FdIn w A e.d) (ho : w'.ownsRow (w.heap.size + 3) 49 4 u' (M.length + 1) (M.flatMap fdC ++ fdC f)) (hg : (wr.alloc o).grownBy w' u.ownBlock) : WLt w w' e A n cap v u' (M ++ [f]) := by
  obtain ⟨⟨h1, h2, h3, h4, h5⟩, h6⟩ := h
  have hz := WiS.size ⟨h1, h2, h3, h4, h5⟩
  have hro : ∀ b, b < w.heap.size + 3 → some b ≠ u.ownBlock := fun b hb e => by have := (h6.lt b e.symm).1; omega
  have hB : Below w.heap.size w w' := (h5.alloc (by omega) o).grown hg (by simp; omega) (fun k hk => by have := (h6.lt k hk).1; omega)
  refine ⟨⟨(h1.below (below_alloc wr o)).grown hg (hro _ (by omega)), ?_, (h3.below (below_alloc wr o)).grown hg (hro _ (by omega)), h0.below hB, hB⟩, by rw [List.length_append, List.flatMap_append, List.flatMap_cons, List.flatMap_nil, List.append_nil]; exact ho⟩
  have h7 := VB.below h2 (below_alloc wr o)
  have hlt := VB.lt h7
  unfold VB at h7 ⊢
  rw [hg.block _ hlt (hro _ (by omega))]; exact h7
/-- the relation of the loop -/
def WRel (w wr : World) (e : Ev) (A : Option Addr) (n cap : Nat) (v : Vl) (nm : ByteArray) (g : Nat) (u dv iv : Value) : Prop :=
  ∃ (k : Nat) (d : Bool), k + g = n ∧ dv = .bool d ∧ iv = .int .i64 k ∧ (d = true → posF e.d nm ≤ k) ∧ (d = false → k ≤ posF e.d nm) ∧ WLt w wr e A n cap v u (midF e.d nm v k d)
theorem alloc_news (w : World) (f : Fd) : ∀ j u, (fdC f)[j]? = some u → (w.alloc (.cells #[.string f.nm, .int .i64 f.v.k, .int .i64 f.v.n, .string f.v.s] 49)).cell? ((⟨w.heap.size, 0, none⟩ : Addr).add j) = some u := by
  intro j u hj
  match j, hj with
  | 0, hj => simp [fdC] at hj; subst hj; simp [Addr.add]
  | 1, hj => simp [fdC] at hj; subst hj; simp [Addr.add]
  | 2, hj => simp [fdC] at hj; subst hj; simp [Addr.add]
  | 3, hj => simp [fdC] at hj; subst hj; simp [Addr.add]
  | j + 4, hj => simp [fdC] at hj
theorem WLt.slice (h : WLt w wr e A n cap v u M) : ∃ B c, u = .slice B M.length c := by
  obtain ⟨B, c, hu, _⟩ := own_rd fdC_len (by omega) h.2
  exact ⟨B, c, hu⟩
end
set_option maxHeartbeats 6400000 in
set_option maxRecDepth 100000 in
theorem rwith_any (e : Ev) (A : Option Addr) (n cap : Nat) (nm : ByteArray) (v : Vl) (w : World) (h : FdIn w A e.d) (hn : e.d.length = n) (hn2 : n ≤ 1000000) (hf : e.fit 9223372036854775000) (hnm : nm.size ≤ 9223372036854775000) (hvs : v.s.size ≤ 9223372036854775000) :
    Calls Tryz.prog 20 #[.agg #[.string e.c, .string e.a, .string e.r, .int .i64 e.life, .int .i64 e.time, .slice A n cap], .string nm, .agg #[.int .i64 v.k, .int .i64 v.n, .string v.s]] w (EpPost (wiR e nm v) w) := by
  have HS := Lib.hid (WiS.new w e A n cap v h)
  have H0 := Lib.hid h
  have HX := Lib.hid (fun w h => revalid_any e A n cap w h hn hn2 hf)
  have HV := Lib.hid (fun w => rvvalid_any v w hvs)
  have HNm := Lib.hid (fun w => sisName_any nm w hnm)
  have HN := Lib.hid hn
  obtain ⟨i0, hi, hz0, hz1, hz2⟩ := info_parts fdInfo
  have HI := Lib.hid (And.intro hi (And.intro hz0 (And.intro hz1 hz2)))
  clear h hf hn hvs hnm hi hz0 hz1 hz2
  go_enter Tryz.func20, Tryz.ntmps20
  go_wp2_with fail
  generalize (((w.alloc _).alloc _).alloc _) = w0 at HS ⊢
  ((with_reducible refine (HX.out _ HS.out.fd).mono ?_); rintro x w1 ⟨rfl, hb1⟩)
  replace HS := Lib.hid (HS.out.below hb1)
  clear hb1 HX
  obtain ⟨d0, d1, d2, g0, g1, g2⟩ := HS.out.vb.cells
  cases hok : e.ok with
  | false =>
    have HR := Lib.hid (wiR_bad (nm := nm) (v := v) (.inl hok))
    obtain ⟨c0, c1, c2, c3, c4, c5⟩ := HS.out.rb.cells
    obtain ⟨f0, f1, f2, f3, f4, f5⟩ := HS.out.rb.fr
    simp only [ev0] at c0 c1 c2 c3 c4 c5
    clear hok
    go_wp2_with fail
    exact bodyPost_ret (v := .tuple #[.agg #[.string ⟨#[]⟩, .string ⟨#[]⟩, .string ⟨#[]⟩, .int .i64 0, .int .i64 0, .slice none 0 0], .int .i64 1]) (by simp [results, Tryz.results20, go_sem, c0, c1, c2, c3, c4, c5]) rfl (EpPost.err HR.out rfl (bset6 HS.out.bel (by omega) _ _ _ _ _ _))
  | true =>
    go_wp2_with fail
    ((with_reducible refine (HV.out _).mono ?_); rintro x w2 ⟨rfl, hb2⟩)
    replace HS := Lib.hid (HS.out.below hb2)
    clear hb2 HV d0 d1 d2 g0 g1 g2
    obtain ⟨c0, c1, c2, c3, c4, c5⟩ := HS.out.rb.cells
    obtain ⟨f0, f1, f2, f3, f4, f5⟩ := HS.out.rb.fr
    simp only [ev0] at c0 c1 c2 c3 c4 c5
    cases hvk : v.ok with
    | false =>
      have HR := Lib.hid (wiR_bad (e := e) (nm := nm) (.inr (.inl hvk)))
      clear hok hvk
      go_wp2_with fail
      exact bodyPost_ret (v := .tuple #[.agg #[.string ⟨#[]⟩, .string ⟨#[]⟩, .string ⟨#[]⟩, .int .i64 0, .int .i64 0, .slice none 0 0], .int .i64 1]) (by simp [results, Tryz.results20, go_sem, c0, c1, c2, c3, c4, c5]) rfl (EpPost.err HR.out rfl (bset6 HS.out.bel (by omega) _ _ _ _ _ _))
    | true =>
      go_wp2_with fail
      ((with_reducible refine (HNm.out _).mono ?_); rintro x w3 ⟨rfl, rfl⟩)
      cases hin : isNameB nm.data.toList with
      | false =>
        have HR := Lib.hid (wiR_bad (e := e) (v := v) (.inr (.inr hin)))
        clear hok hvk hin
        go_wp2_with fail
        exact bodyPost_ret (v := .tuple #[.agg #[.string ⟨#[]⟩, .string ⟨#[]⟩, .string ⟨#[]⟩, .int .i64 0, .int .i64 0, .slice none 0 0], .int .i64 1]) (by simp [results, Tryz.results20, go_sem, c0, c1, c2, c3, c4, c5]) rfl (EpPost.err HR.out rfl (bset6 HS.out.bel (by omega) _ _ _ _ _ _))
      | true =>
        have hfb : fdsB e.d = true := by unfold Ev.ok at hok; rw [Bool.and_eq_true] at hok; exact hok.2
        have HSo := Lib.hid (sort_of e.d hfb)
        have hd8 : n ≤ 8 := by rw [← HN.out]; exact (ev_head e hok).2.2.2.2
        have HRF := Lib.hid (fun h => wiR_full hok hvk hin h)
        have HRO := Lib.hid (fun h => wiR_ok hok hvk hin h)
        have HML := Lib.hid (fun k d => show (midF e.d nm v k d).length ≤ 17 by have := mid_len e.d nm v k d; rw [HN.out] at this; omega)
        have HS1 := Lib.hid (show WLt w w2 e A n cap v (.slice none 0 0) (midF e.d nm v 0 false) from ⟨HS.out, World.ownsRow_nil _ _ _ _⟩)
        have HPL := Lib.hid (posF_le e.d nm)
        clear hok hvk hin hfb c0 c1 c2 c3 c4 c5 f0 f1 f2 f3 f4 f5 HS
        go_wp2_with fail
        go_loopg [8, 9, 10] (n) (fun g u dv iv wr => WRel w wr e A n cap v nm g u dv iv)
        case atStart => exact ⟨0, false, by omega, rfl, rfl, fun h => (by cases h), fun _ => Nat.zero_le _, HS1.out⟩
        case round =>
          obtain ⟨k, d, hk, rfl, rfl, hd1, hd2, hS⟩ := hrel
          have HK := Lib.hid hk
          have HS := Lib.hid hS
          have hle : k ≤ n := by omega
          have hml := HML.out k d
          obtain ⟨B, c, rfl⟩ := hS.slice
          have hzr := hS.s.size
          clear hk hS HS1
          obtain ⟨x0, x1, x2, x3, x4, x5⟩ := HS.out.s.eb.cells
          obtain ⟨y0, y1, y2, y3, y4, y5⟩ := HS.out.s.eb.fr
          obtain ⟨d0, d1, d2, g0, g1, g2⟩ := HS.out.s.vb.cells
          obtain ⟨c0, c1, c2, c3, c4, c5⟩ := HS.out.s.rb.cells
          obtain ⟨f0, f1, f2, f3, f4, f5⟩ := HS.out.s.rb.fr
          simp only [ev0] at c0 c1 c2 c3 c4 c5
          by_cases hlt : k < n
          · have hlt' : k < e.d.length := by rw [HN.out]; exact hlt
            obtain ⟨ad, rfl, hpw, hz⟩ := H0.out k hlt'
            clear hz
            obtain ⟨ad', had, hpa, m0, m1, m2, m3⟩ := HS.out.s.fd k hlt'
            cases had
            cases d with
            | false =>
              replace hd2 := hd2 rfl
              clear hd1
              cases hl : ltN e.d[k].nm nm with
              | true =>
                have q1 : Op.bytesLess e.d[k].nm.toList nm.toList = true := hl
                have q2 : (e.d[k].nm.toList == nm.toList) = false := str_ne _ _ (fun h => ltN_ne hl (bytes_ext h))
                have HMid := Lib.hid (mid_ahead e.d nm v k hlt')
                have HPk := Lib.hid (show k + 1 ≤ posF e.d nm from by
                  rcases Nat.lt_or_ge k (posF e.d nm) with h | h
                  · exact h
                  · have e1 : posF e.d nm = k := by omega
                    have := posF_at e.d nm (by omega)
                    simp only [e1] at this
                    rw [hl] at this; cases this)
                clear hl
                generalize midF e.d nm v k false = M at *
                generalize e.d[k] = xf at *
                obtain ⟨xn, xk, xi, xs⟩ := xf
                simp only at m0 m1 m2 m3
                clear hlt'
                go_wp2_with (at_builtin; refine wpList_append_own _ rfl _ _ 22 rfl (w.heap.size + 3) 49 i0 (.agg #[.string ⟨#[]⟩, .int .i64 0, .int .i64 0, .string ⟨#[]⟩]) 4 48 Tryz.underlying22 HI.out.1 HI.out.2.1 HI.out.2.2.1 HI.out.2.2.2 rfl (by decide) (.slice B M.length c) _ _ rfl (HS.out.own.alloc _) ⟨wr.heap.size, 0, none⟩ 1 1 (fdC ⟨xn, ⟨xk, xi, xs⟩⟩) rfl rfl (alloc_news wr ⟨xn, ⟨xk, xi, xs⟩⟩) (fdC_one ⟨xn, ⟨xk, xi, xs⟩⟩) ?h13 ?h14 ?h15 ?_)
                case h13 => unfold maxLen; omega
                case h14 => omega
                case h15 => first | omega | (simp; omega)
                intro u' w5 hown5 hgrow5 _
                replace HS := Lib.hid (HS.out.push (f := ⟨xn, ⟨xk, xi, xs⟩⟩) H0.out hown5 hgrow5)
                clear hown5 hgrow5
                go_wp2_with fail
                go_roundg (gk - 1)
                case measure => have := HK.out; omega
                case rel => exact ⟨k + 1, false, by have := HK.out; omega, rfl, by go_num, fun h => (by cases h), fun _ => HPk.out, by rw [HMid.out]; exact HS.out⟩
              | false =>
                have q1 : Op.bytesLess e.d[k].nm.toList nm.toList = false := hl
                have hpk : posF e.d nm = k := posF_eq e.d nm k (by omega) (fun j hj hj2 => posF_lt e.d nm j (by omega) hj2) (fun _ => hl)
                have HMid := Lib.hid (mid_at e.d nm v k hpk)
                have hpk2 : posF e.d nm ≤ k := by omega
                have hm2 := HML.out k true
                clear hl
                by_cases he : e.d[k].nm = nm
                · have HMs := Lib.hid (mid_skip e.d nm v k hlt' hpk2 he)
                  have q2 : (e.d[k].nm.toList == nm.toList) = true := by rw [he]; exact beq_self_eq_true _
                  have HPk := Lib.hid (show posF e.d nm ≤ k + 1 by omega)
                  clear he hpk
                  generalize hM : midF e.d nm v k false = M at *
                  clear hM
                  have HKeep := Lib.hid (show ∀ (wx : World), FdIn wx (some ad) e.d → wx.cell? (ad.add (k * 4)) = some (.string e.d[k].nm) ∧ wx.cell? ⟨(ad.add (k * 4)).block, (ad.add (k * 4)).off + 1, none⟩ = some (.int .i64 e.d[k].v.k) ∧ wx.cell? ⟨(ad.add (k * 4)).block, (ad.add (k * 4)).off + 1 + 1, none⟩ = some (.int .i64 e.d[k].v.n) ∧ wx.cell? ⟨(ad.add (k * 4)).block, (ad.add (k * 4)).off + 1 + 1 + 1, none⟩ = some (.string e.d[k].v.s) from fun wx h => by
                    obtain ⟨ad', had, _, m⟩ := h k hlt'
                    cases had; exact m)
                  generalize e.d[k] = xf at *
                  obtain ⟨xn, xk, xi, xs⟩ := xf
                  simp only at m0 m1 m2 m3
                  clear hlt'
                  go_wp2_with (at_builtin; refine wpList_append_own _ rfl _ _ 22 rfl (w.heap.size + 3) 49 i0 (.agg #[.string ⟨#[]⟩, .int .i64 0, .int .i64 0, .string ⟨#[]⟩]) 4 48 Tryz.underlying22 HI.out.1 HI.out.2.1 HI.out.2.2.1 HI.out.2.2.2 rfl (by decide) (.slice B M.length c) _ _ rfl (HS.out.own.alloc _) ⟨wr.heap.size, 0, none⟩ 1 1 (fdC ⟨nm, v⟩) rfl rfl (alloc_news wr ⟨nm, v⟩) (fdC_one ⟨nm, v⟩) ?h23 ?h24 ?h25 ?_)
                  case h23 => unfold maxLen; omega
                  case h24 => omega
                  case h25 => first | omega | (simp; omega)
                  intro u' w5 hown5 hgrow5 _
                  replace HS := Lib.hid (HS.out.push (f := ⟨nm, v⟩) H0.out hown5 hgrow5)
                  clear hown5 hgrow5
                  clear x0 x1 x2 x3 x4 x5 y0 y1 y2 y3 y4 y5 d0 d1 d2 g0 g1 g2 c0 c1 c2 c3 c4 c5 f0 f1 f2 f3 f4 f5 m0 m1 m2 m3
                  obtain ⟨x0, x1, x2, x3, x4, x5⟩ := HS.out.s.eb.cells
                  obtain ⟨m0, m1, m2, m3⟩ := HKeep.out _ HS.out.s.fd
                  go_wp2_with fail
                  go_roundg (gk - 1)
                  case measure => have := HK.out; omega
                  case rel => exact ⟨k + 1, true, by have := HK.out; omega, rfl, by go_num, fun _ => HPk.out, fun h => (by cases h), by rw [HMs.out, HMid.out]; exact HS.out⟩
                · have HMs := Lib.hid (mid_push e.d nm v k hlt' hpk2 he)
                  have q2 : (e.d[k].nm.toList == nm.toList) = false := str_ne _ _ (fun h => he (bytes_ext h))
                  have HPk := Lib.hid (show posF e.d nm ≤ k + 1 by omega)
                  clear he hpk
                  generalize hM : midF e.d nm v k false = M at *
                  clear hM
                  have HKeep := Lib.hid (show ∀ (wx : World), FdIn wx (some ad) e.d → wx.cell? (ad.add (k * 4)) = some (.string e.d[k].nm) ∧ wx.cell? ⟨(ad.add (k * 4)).block, (ad.add (k * 4)).off + 1, none⟩ = some (.int .i64 e.d[k].v.k) ∧ wx.cell? ⟨(ad.add (k * 4)).block, (ad.add (k * 4)).off + 1 + 1, none⟩ = some (.int .i64 e.d[k].v.n) ∧ wx.cell? ⟨(ad.add (k * 4)).block, (ad.add (k * 4)).off + 1 + 1 + 1, none⟩ = some (.string e.d[k].v.s) from fun wx h => by
                    obtain ⟨ad', had, _, m⟩ := h k hlt'
                    cases had; exact m)
                  generalize e.d[k] = xf at *
                  obtain ⟨xn, xk, xi, xs⟩ := xf
                  simp only at m0 m1 m2 m3
                  clear hlt'
                  go_wp2_with (at_builtin; refine wpList_append_own _ rfl _ _ 22 rfl (w.heap.size + 3) 49 i0 (.agg #[.string ⟨#[]⟩, .int .i64 0, .int .i64 0, .string ⟨#[]⟩]) 4 48 Tryz.underlying22 HI.out.1 HI.out.2.1 HI.out.2.2.1 HI.out.2.2.2 rfl (by decide) (.slice B M.length c) _ _ rfl (HS.out.own.alloc _) ⟨wr.heap.size, 0, none⟩ 1 1 (fdC ⟨nm, v⟩) rfl rfl (alloc_news wr ⟨nm, v⟩) (fdC_one ⟨nm, v⟩) ?h33 ?h34 ?h35 ?_)
                  case h33 => unfold maxLen; omega
                  case h34 => omega
                  case h35 => first | omega | (simp; omega)
                  intro u' w5 hown5 hgrow5 _
                  replace HS := Lib.hid (HS.out.push (f := ⟨nm, v⟩) H0.out hown5 hgrow5)
                  clear hown5 hgrow5
                  clear x0 x1 x2 x3 x4 x5 y0 y1 y2 y3 y4 y5 d0 d1 d2 g0 g1 g2 c0 c1 c2 c3 c4 c5 f0 f1 f2 f3 f4 f5 m0 m1 m2 m3
                  obtain ⟨x0, x1, x2, x3, x4, x5⟩ := HS.out.s.eb.cells
                  obtain ⟨m0, m1, m2, m3⟩ := HKeep.out _ HS.out.s.fd
                  rw [← HMid.out] at HS
                  generalize hM2 : midF e.d nm v k true = M2 at *
                  clear hM2
                  obtain ⟨B2, c2', rfl⟩ := HS.out.slice
                  have hz5 := HS.out.s.size
                  go_wp2_with (at_builtin; refine wpList_append_own _ rfl _ _ 22 rfl (w.heap.size + 3) 49 i0 (.agg #[.string ⟨#[]⟩, .int .i64 0, .int .i64 0, .string ⟨#[]⟩]) 4 48 Tryz.underlying22 HI.out.1 HI.out.2.1 HI.out.2.2.1 HI.out.2.2.2 rfl (by decide) (.slice B2 M2.length c2') _ _ rfl (HS.out.own.alloc _) ⟨w5.heap.size, 0, none⟩ 1 1 (fdC ⟨xn, ⟨xk, xi, xs⟩⟩) rfl rfl (alloc_news w5 ⟨xn, ⟨xk, xi, xs⟩⟩) (fdC_one ⟨xn, ⟨xk, xi, xs⟩⟩) ?h43 ?h44 ?h45 ?_)
                  case h43 => unfold maxLen; omega
                  case h44 => omega
                  case h45 => first | omega | (simp; omega)
                  intro u'' w6 hown5 hgrow5 _
                  replace HS := Lib.hid (HS.out.push (f := ⟨xn, ⟨xk, xi, xs⟩⟩) H0.out hown5 hgrow5)
                  clear hown5 hgrow5
                  go_wp2_with fail
                  go_roundg (gk - 1)
                  case measure => have := HK.out; omega
                  case rel => exact ⟨k + 1, true, by have := HK.out; omega, rfl, by go_num, fun _ => HPk.out, fun h => (by cases h), by rw [HMs.out]; exact HS.out⟩
            | true =>
              replace hd1 := hd1 rfl
              clear hd2
              by_cases he : e.d[k].nm = nm
              · have HMs := Lib.hid (mid_skip e.d nm v k hlt' hd1 he)
                have q2 : (e.d[k].nm.toList == nm.toList) = true := by rw [he]; exact beq_self_eq_true _
                have HPk := Lib.hid (show posF e.d nm ≤ k + 1 by omega)
                clear he
                generalize midF e.d nm v k true = M at *
                generalize e.d[k] = xf at *
                obtain ⟨xn, xk, xi, xs⟩ := xf
                simp only at m0 m1 m2 m3
                clear hlt'
                go_wp2_with fail
                go_roundg (gk - 1)
                case measure => have := HK.out; omega
                case rel => exact ⟨k + 1, true, by have := HK.out; omega, rfl, by go_num, fun _ => HPk.out, fun h => (by cases h), by rw [HMs.out]; exact HS.out⟩
              · have HMs := Lib.hid (mid_push e.d nm v k hlt' hd1 he)
                have q2 : (e.d[k].nm.toList == nm.toList) = false := str_ne _ _ (fun h => he (bytes_ext h))
                have HPk := Lib.hid (show posF e.d nm ≤ k + 1 by omega)
                clear he
                generalize midF e.d nm v k true = M at *
                generalize e.d[k] = xf at *
                obtain ⟨xn, xk, xi, xs⟩ := xf
                simp only at m0 m1 m2 m3
                clear hlt'
                go_wp2_with (at_builtin; refine wpList_append_own _ rfl _ _ 22 rfl (w.heap.size + 3) 49 i0 (.agg #[.string ⟨#[]⟩, .int .i64 0, .int .i64 0, .string ⟨#[]⟩]) 4 48 Tryz.underlying22 HI.out.1 HI.out.2.1 HI.out.2.2.1 HI.out.2.2.2 rfl (by decide) (.slice B M.length c) _ _ rfl (HS.out.own.alloc _) ⟨wr.heap.size, 0, none⟩ 1 1 (fdC ⟨xn, ⟨xk, xi, xs⟩⟩) rfl rfl (alloc_news wr ⟨xn, ⟨xk, xi, xs⟩⟩) (fdC_one ⟨xn, ⟨xk, xi, xs⟩⟩) ?h53 ?h54 ?h55 ?_)
                case h53 => unfold maxLen; omega
                case h54 => omega
                case h55 => first | omega | (simp; omega)
                intro u' w5 hown5 hgrow5 _
                replace HS := Lib.hid (HS.out.push (f := ⟨xn, ⟨xk, xi, xs⟩⟩) H0.out hown5 hgrow5)
                clear hown5 hgrow5
                go_wp2_with fail
                go_roundg (gk - 1)
                case measure => have := HK.out; omega
                case rel => exact ⟨k + 1, true, by have := HK.out; omega, rfl, by go_num, fun _ => HPk.out, fun h => (by cases h), by rw [HMs.out]; exact HS.out⟩
          · obtain rfl : k = n := by omega
            cases d with
            | false =>
              replace hd2 := hd2 rfl
              clear hd1
              have HMe := Lib.hid (show midF e.d nm v k false ++ [⟨nm, v⟩] = setF e.d nm v by
                have := mid_end2 e.d HSo.out nm v (by have := HPL.out; have := HN.out; omega)
                rwa [HN.out] at this)
              generalize hM : midF e.d nm v k false = M at *
              clear hM
              go_wp2_with (at_builtin; refine wpList_append_own _ rfl _ _ 22 rfl (w.heap.size + 3) 49 i0 (.agg #[.string ⟨#[]⟩, .int .i64 0, .int .i64 0, .string ⟨#[]⟩]) 4 48 Tryz.underlying22 HI.out.1 HI.out.2.1 HI.out.2.2.1 HI.out.2.2.2 rfl (by decide) (.slice B M.length c) _ _ rfl (HS.out.own.alloc _) ⟨wr.heap.size, 0, none⟩ 1 1 (fdC ⟨nm, v⟩) rfl rfl (alloc_news wr ⟨nm, v⟩) (fdC_one ⟨nm, v⟩) ?h63 ?h64 ?h65 ?_)
              case h63 => unfold maxLen; omega
              case h64 => omega
              case h65 => first | omega | (simp; omega)
              intro u' w5 hown5 hgrow5 _
              replace HS := Lib.hid (HS.out.push (f := ⟨nm, v⟩) H0.out hown5 hgrow5)
              clear hown5 hgrow5
              rw [HMe.out] at HS
              obtain ⟨B2, c2', rfl⟩ := HS.out.slice
              clear x0 x1 x2 x3 x4 x5 y0 y1 y2 y3 y4 y5 d0 d1 d2 g0 g1 g2 c0 c1 c2 c3 c4 c5 f0 f1 f2 f3 f4 f5
              obtain ⟨x0, x1, x2, x3, x4, x5⟩ := HS.out.s.eb.cells
              obtain ⟨c0, c1, c2, c3, c4, c5⟩ := HS.out.s.rb.cells
              obtain ⟨f0, f1, f2, f3, f4, f5⟩ := HS.out.s.rb.fr
              simp only [ev0] at c0 c1 c2 c3 c4 c5
              by_cases h8 : 8 < (setF e.d nm v).length
              · have HR := Lib.hid (HRF.out h8)
                have q8 : (8 : Int) < ((setF e.d nm v).length : Int) := by omega
                clear HRF HRO h8
                generalize setF e.d nm v = D at *
                go_wp2_with fail
                exact bodyPost_ret (v := .tuple #[.agg #[.string ⟨#[]⟩, .string ⟨#[]⟩, .string ⟨#[]⟩, .int .i64 0, .int .i64 0, .slice none 0 0], .int .i64 5]) (by simp [results, Tryz.results20, go_sem, c0, c1, c2, c3, c4, c5]) rfl (EpPost.err HR.out rfl (bset6 HS.out.s.bel (by omega) _ _ _ _ _ _))
              · have HR := Lib.hid (HRO.out (by omega))
                have q8 : ((setF e.d nm v).length : Int) ≤ 8 := by omega
                have HFdN := Lib.hid (fun (w' : World) (h : w'.ownsRow (w.heap.size + 3) 49 4 (.slice B2 (setF e.d nm v).length c2') (setF e.d nm v).length ((setF e.d nm v).flatMap fdC)) => (show FdIn w' B2 (setF e.d nm v) from by
                  obtain ⟨A', c', hv', hfd, _⟩ := own_fdin h
                  cases hv'; exact hfd))
                clear HRF HRO h8
                have hzz : w.heap.size + 1 + 1 < w5.heap.size := by have := HS.out.s.size; omega
                rw [show w.heap.size + 2 = w.heap.size + 1 + 1 from rfl] at c0 c1 c2 c3 c4 c5 f0 f1 f2 f3 f4 f5
                generalize hD : setF e.d nm v = D at *
                clear hD
                go_wp2_with fail
                have hfd := HFdN.out _ ((own_set6 HS.out.own (show w.heap.size + 1 + 1 < w.heap.size + 3 by omega) (.string e.c) (.string e.a) (.string e.r) (.int .i64 e.life) (.int .i64 e.time) (.slice B2 D.length c2')).alloc (.cells #[.string e.c, .string e.a, .string e.r, .int .i64 e.life, .int .i64 e.time, .slice B2 D.length c2'] 24))
                have HB := Lib.hid ((bset6 HS.out.s.bel (show w.heap.size ≤ w.heap.size + 1 + 1 by omega) (.string e.c) (.string e.a) (.string e.r) (.int .i64 e.life) (.int .i64 e.time) (.slice B2 D.length c2')).alloc (by simp; omega) (.cells #[.string e.c, .string e.a, .string e.r, .int .i64 e.life, .int .i64 e.time, .slice B2 D.length c2'] 24))
                exact bodyPost_ret (v := .tuple #[.agg #[.string e.c, .string e.a, .string e.r, .int .i64 e.life, .int .i64 e.time, .slice B2 D.length c2'], .int .i64 0]) (by simp [results, Tryz.results20, go_sem, c0, c1, c2, c3, c4, c5, hzz]) rfl (ep_ok e D HR.out rfl hfd HB.out)
            | true =>
              replace hd1 := hd1 rfl
              clear hd2
              have HMe := Lib.hid (show midF e.d nm v k true = setF e.d nm v by
                have := mid_end e.d HSo.out nm v
                rwa [HN.out] at this)
              rw [HMe.out] at HS
              clear hml
              rw [HMe.out]
              by_cases h8 : 8 < (setF e.d nm v).length
              · have HR := Lib.hid (HRF.out h8)
                have q8 : (8 : Int) < ((setF e.d nm v).length : Int) := by omega
                clear HRF HRO h8
                generalize setF e.d nm v = D at *
                go_wp2_with fail
                exact bodyPost_ret (v := .tuple #[.agg #[.string ⟨#[]⟩, .string ⟨#[]⟩, .string ⟨#[]⟩, .int .i64 0, .int .i64 0, .slice none 0 0], .int .i64 5]) (by simp [results, Tryz.results20, go_sem, c0, c1, c2, c3, c4, c5]) rfl (EpPost.err HR.out rfl (bset6 HS.out.s.bel (by omega) _ _ _ _ _ _))
              · have HR := Lib.hid (HRO.out (by omega))
                have q8 : ((setF e.d nm v).length : Int) ≤ 8 := by omega
                have HFdN := Lib.hid (fun (w' : World) (h : w'.ownsRow (w.heap.size + 3) 49 4 (.slice B (setF e.d nm v).length c) (setF e.d nm v).length ((setF e.d nm v).flatMap fdC)) => (show FdIn w' B (setF e.d nm v) from by
                  obtain ⟨A', c', hv', hfd, _⟩ := own_fdin h
                  cases hv'; exact hfd))
                clear HRF HRO h8
                have hzz : w.heap.size + 1 + 1 < wr.heap.size := by have := HS.out.s.size; omega
                rw [show w.heap.size + 2 = w.heap.size + 1 + 1 from rfl] at c0 c1 c2 c3 c4 c5 f0 f1 f2 f3 f4 f5
                generalize hD : setF e.d nm v = D at *
                clear hD
                go_wp2_with fail
                have hfd := HFdN.out _ ((own_set6 HS.out.own (show w.heap.size + 1 + 1 < w.heap.size + 3 by omega) (.string e.c) (.string e.a) (.string e.r) (.int .i64 e.life) (.int .i64 e.time) (.slice B D.length c)).alloc (.cells #[.string e.c, .string e.a, .string e.r, .int .i64 e.life, .int .i64 e.time, .slice B D.length c] 24))
                have HB := Lib.hid ((bset6 HS.out.s.bel (show w.heap.size ≤ w.heap.size + 1 + 1 by omega) (.string e.c) (.string e.a) (.string e.r) (.int .i64 e.life) (.int .i64 e.time) (.slice B D.length c)).alloc (by simp; omega) (.cells #[.string e.c, .string e.a, .string e.r, .int .i64 e.life, .int .i64 e.time, .slice B D.length c] 24))
                exact bodyPost_ret (v := .tuple #[.agg #[.string e.c, .string e.a, .string e.r, .int .i64 e.life, .int .i64 e.time, .slice B D.length c], .int .i64 0]) (by simp [results, Tryz.results20, go_sem, c0, c1, c2, c3, c4, c5, hzz]) rfl (ep_ok e D HR.out rfl hfd HB.out)
end
end Go.Proofs.YtbbdgncjpbfooaaGreatDoor
