/- slices.Grow and slices.Concat at fields: what a call returns. Fields that were set one behind the other: plain Lean, no program in sight. EventSets' function values, and ContainsFunc with them: what a call returns. -/
import Derived.Test.YtbbdgncjpbfooaaGreatDoorWf
import Derived.Test.YtbbdgncjpbfooaaGreatDoorVd
import Derived.Test.YtbbdgncjpbfooaaGreatDoorVa
import Derived.Lib.AppendZeros
namespace Go.Proofs.YtbbdgncjpbfooaaGreatDoor
section
open Go.RowKit

theorem run_append_nils {P : Program} {w : World} {base : Nat} {t ty e : TypeId} {i : TypeInfo} {size : Nat} (ht : P.underlying t = some (.slice e)) (hi : P.info? e = some i)
    {v : Value} {n : Nat} {xs : List Value} (hown : w.ownsRow base e size v n xs) (c : Nat) : (Builtin.append_ #[t, t] ty #[v, .slice none 0 c]).run P w = .ok v w := by
  rcases hown.2 with ⟨rfl, rfl⟩ | ⟨g, cap, cur, rfl, _, _, hnc, _⟩
  · simp [Builtin.append_, run_underlying ht, sizeOf, typeInfo, hi, Builtin.lenOf, Builtin.firstCells]
  · simp [Builtin.append_, run_underlying ht, sizeOf, typeInfo, hi, Builtin.lenOf, Builtin.firstCells, hnc, storeCells]
/-- append of a list of structs that is read, nil let in, onto a row of one's own -/
theorem wpList_append_rd {P : Program} {α : Type} {cf : α → List Value} {K : Nat} (hK : ∀ x, (cf x).length = K) (hone : ∀ x, ∀ u ∈ cf x, u.oneCell' = true) (w : World) {ops : Array Oper} {rest : List Oper} {o : Oper} {a : Act} {Q : Exit → Act → World → Prop} (hgd : o.guard = none) (s x : Operand) (t : TypeId)
    (ho : o.op = .call { callee := .builtin .append, args := #[s, x], argTypes := #[t, t] })
    (base : Nat) (e : TypeId) (i : TypeInfo) (z : Value) (bytes : Nat) (ht : P.underlying t = some (.slice e)) (hi : P.info? e = some i) (hz : i.zero = some z)
    (hsize : i.size = K) (hby : i.bytes = bytes) (hzs : z.cells.size = K) (hsz : 0 < K)
    (v : Value) (n : Nat) (xs : List Value) (hs : a.eval s = v) (hown : w.ownsRow base e K v n xs)
    (A : Option Addr) (m c : Nat) (M : List α) (hx : a.eval x = .slice A m c) (hr : Rd cf K w A M) (hm : M.length = m)
    (h63 : n + m ≤ maxLen) (hbytes : (n + m) * bytes ≤ 140737488355328) (hbase : base ≤ w.heap.size)
    (h : ∀ v' w', w'.ownsRow base e K v' (n + m) (xs ++ M.flatMap cf) → w.grownBy w' v.ownBlock → wpList P ops Q rest (a.put o.dst v') w') : wpList P ops Q (o :: rest) a w := by
  cases A with
  | some ad => exact wpList_append_own w hgd s x t ho base e i z K bytes ht hi hz hsize hby hzs hsz v n xs hs hown ad m c (M.flatMap cf) hx (by rw [row_len hK, hm]) (Rd.news hK hsz hr) (row_one hone M) h63 hbytes hbase fun v' w' h2 h3 _ => h v' w' h2 h3
  | none =>
    have hM : M = [] := by
      cases M with
      | nil => rfl
      | cons y M => obtain ⟨ad, e, _⟩ := hr 0 (by simp); cases e
    subst hM
    obtain rfl : m = 0 := hm.symm
    refine wpList_plain hgd fun K' hK' => ?_
    unfold Oper.wp execOp
    simp only [ho, resolve, invoke, builtin, Sem.run_bind, Sem.run_pure, Result.andThen_ok, List.map_toArray, List.map_cons, List.map_nil, hs, hx, run_append_nils ht hi hown c]
    exact hK' _ _ (h v w (by simpa using hown) ⟨rfl, rfl, rfl, Nat.le_refl _, fun _ _ _ => rfl⟩)
set_option maxHeartbeats 1600000 in
set_option maxRecDepth 100000 in
theorem fgrow_any (n : Nat) (w : World) (hn : n ≤ 1000000) :
    Calls Tryz.prog 57 #[.slice none 0 0, .int .i64 n] w fun e w' => ∃ v, e = .returned v ∧ w'.ownsRow w.heap.size 49 4 v 0 [] ∧ Below w.heap.size w w' := by
  obtain ⟨i0, hi0, hz0, hz1, hz2⟩ := info_parts fdInfo
  by_cases h0 : n = 0
  · subst h0
    clear hi0 hz0 hz1 hz2
    go_enter Tryz.func57, Tryz.ntmps57
    go_wp2_with fail
    go_ret
    exact ⟨_, rfl, World.ownsRow_nil _ _ _ _, Below.refl _ _⟩
  · have hp : 0 < n := by omega
    have hrz : ∀ ty, (Builtin.append_ #[22, 3] ty #[.slice none 0 0, .int .i64 (n : Int)]).run Tryz.prog w = _ := fun ty =>
      Lib.run_append_nil_zeros w 22 3 ty 49 i0 _ .i64 .i64 Tryz.underlying22 Tryz.underlying3 hi0 hz0 n hp (by omega) (by omega) (by rw [hz2]; omega)
    obtain ⟨G, hG⟩ : ∃ G, G = grownCap w n 0 49 := ⟨_, rfl⟩
    have hGn : n ≤ G := by rw [hG]; exact grownCap_ge w _ _ _
    have hG63 : G ≤ maxLen := by rw [hG]; exact grownCap_le_maxLen w n 0 49 (by unfold maxLen; omega)
    rw [← hG] at hrz
    have hzc : ∀ k, (Builtin.zeroCells (Value.agg #[.string ⟨#[]⟩, .int .i64 0, .int .i64 0, .string ⟨#[]⟩]).cells k).size = k * 4 := fun k => by simp [Builtin.zeroCells, Value.cells]
    obtain ⟨ROW, hROW⟩ : ∃ ROW : Array Value, ROW = Builtin.zeroCells (Value.agg #[.string ⟨#[]⟩, .int .i64 0, .int .i64 0, .string ⟨#[]⟩]).cells n ++ Builtin.zeroCells (Value.agg #[.string ⟨#[]⟩, .int .i64 0, .int .i64 0, .string ⟨#[]⟩]).cells (G - n) := ⟨_, rfl⟩
    rw [← hROW] at hrz
    have hRl : ROW.size = G * 4 := by rw [hROW, Array.size_append, hzc, hzc]; omega
    have HFin := Lib.hid (show (w.alloc (.cells ROW 49)).drew.ownsRow w.heap.size 49 4 (.slice (some ⟨w.heap.size, 0, none⟩) 0 G) 0 [] ∧ Below w.heap.size w (w.alloc (.cells ROW 49)).drew from
      ⟨World.ownsRow_made (base := w.heap.size) (e := 49) (size := 4) w ROW G (Nat.le_refl _) hG63 hRl, (below_alloc w _).drew⟩)
    have hG63i : (G : Int) ≤ 9223372036854775807 := by unfold maxLen at hG63; omega
    have hGz : ¬ G = 0 := by omega
    clear hi0 hz0 hz1 hz2 hG hROW hzc hRl hG63
    go_enter Tryz.func57, Tryz.ntmps57
    go_wp2_with (at_builtin; refine Lib.wpList_append_run _ rfl _ _ _ _ rfl _ _ rfl rfl _ _ (hrz _) ?_)
    go_ret
    exact ⟨_, rfl, HFin.out⟩
/-- how much Concat has counted, and collected -/
def CcS (n1 n2 k s : Nat) : Prop := (k = 0 ∧ s = 0) ∨ (k = 1 ∧ s = n1) ∨ (k = 2 ∧ s = n1 + n2)
def CcN (w wr : World) (n1 n2 g : Nat) (sv iv : Value) : Prop := ∃ k s : Nat, k + g = 2 ∧ sv = .int .i64 s ∧ iv = .int .i64 k ∧ CcS n1 n2 k s ∧ w = wr
def CcL (L1 L2 : List Fd) (k : Nat) (M : List Fd) : Prop := (k = 0 ∧ M = []) ∨ (k = 1 ∧ M = L1) ∨ (k = 2 ∧ M = L1 ++ L2)
def CcM (w wr : World) (L1 L2 : List Fd) (g : Nat) (u iv : Value) : Prop := ∃ (k : Nat) (M : List Fd), k + g = 2 ∧ iv = .int .i64 k ∧ CcL L1 L2 k M ∧ wr.ownsRow w.heap.size 49 4 u M.length (M.flatMap fdC) ∧ Below w.heap.size w wr
set_option maxHeartbeats 3200000 in
set_option maxRecDepth 100000 in
theorem fconcat_any (sb : Nat) (A1 A2 : Option Addr) (n1 c1 n2 c2 : Nat) (L1 L2 : List Fd) (w : World) (hs : w.heap[sb]? = some (.cells #[.slice A1 n1 c1, .slice A2 n2 c2] 22 (0, 0)))
    (h1 : FdIn w A1 L1) (h2 : FdIn w A2 L2) (hn1 : L1.length = n1) (hn2 : L2.length = n2) (hb1 : n1 ≤ 1000) (hb2 : n2 ≤ 1000) :
    Calls Tryz.prog 25 #[.slice (some ⟨sb, 0, none⟩) 2 2] w fun e w' => ∃ v, e = .returned v ∧ w'.ownsRow w.heap.size 49 4 v (n1 + n2) ((L1 ++ L2).flatMap fdC) ∧ Below w.heap.size w w' := by
  have hc0 : w.cell? ⟨sb, 0, none⟩ = some (.slice A1 n1 c1) := by simp [World.cell?, hs]
  have hc1 : w.cell? ⟨sb, 1, none⟩ = some (.slice A2 n2 c2) := by simp [World.cell?, hs]
  have HC := Lib.hid (And.intro hc0 hc1)
  have hgr := fgrow_any (n1 + n2) w (by omega)
  rw [Int.natCast_add] at hgr
  have HG := Lib.hid hgr
  have H1 := Lib.hid h1
  have H2 := Lib.hid h2
  have HN1 := Lib.hid hn1
  have HN2 := Lib.hid hn2
  obtain ⟨i0, hi0, hz0, hz1, hz2⟩ := info_parts fdInfo
  have HI := Lib.hid (And.intro hi0 (And.intro hz0 (And.intro hz1 hz2)))
  clear hgr hs h1 h2 hn1 hn2 hi0 hz0 hz1 hz2
  go_enter Tryz.func25, Tryz.ntmps25
  go_wp2_with fail
  go_loopg [3, 11] (2) (fun g sv iv wr => CcN w wr n1 n2 g sv iv)
  case atStart => exact ⟨0, 0, by omega, rfl, rfl, .inl ⟨rfl, rfl⟩, rfl⟩
  case round =>
    obtain ⟨k, s, hk, rfl, rfl, hks, rfl⟩ := hrel
    rcases hks with ⟨rfl, rfl⟩ | ⟨rfl, rfl⟩ | ⟨rfl, rfl⟩
    · go_wp2_with fail
      go_roundg (gk - 1)
      case measure => omega
      case rel => exact ⟨1, n1, by omega, by go_num, by go_num, .inr (.inl ⟨rfl, rfl⟩), rfl⟩
    · go_wp2_with fail
      go_roundg (gk - 1)
      case measure => omega
      case rel => exact ⟨2, s + n2, by omega, by go_num, by go_num, .inr (.inr ⟨rfl, rfl⟩), rfl⟩
    · clear hc0 hc1
      go_wp2_with fail
      ((with_reducible refine HG.out.mono ?_); rintro e w1 ⟨v, rfl, hown, hb1⟩)
      have HS1 := Lib.hid (And.intro hown hb1)
      clear hown hb1 HG
      go_wp2_with fail
      go_loopg [6, 27] (2) (fun g u iv wr => CcM w wr L1 L2 g u iv)
      case atStart => exact ⟨0, [], by omega, rfl, .inl ⟨rfl, rfl⟩, HS1.out.1, HS1.out.2⟩
      case round =>
        obtain ⟨k, M, hk, rfl, hkM, hO, hB⟩ := hrel
        have HO := Lib.hid hO
        have HB := Lib.hid hB
        obtain ⟨B, c, hv, _⟩ := own_fdin hO
        clear HS1 hO hB
        have q0 := cell_stays HB.out HC.out.1
        have q1 := cell_stays HB.out HC.out.2
        rcases hkM with ⟨rfl, rfl⟩ | ⟨rfl, rfl⟩ | ⟨rfl, rfl⟩
        · subst hv
          go_wp2_with (at_builtin; refine wpList_append_rd fdC_len fdC_one _ rfl _ _ 22 rfl w.heap.size 49 i0 (.agg #[.string ⟨#[]⟩, .int .i64 0, .int .i64 0, .string ⟨#[]⟩]) 48 Tryz.underlying22 HI.out.1 HI.out.2.1 HI.out.2.2.1 HI.out.2.2.2 rfl (by decide) (.slice B 0 c) 0 _ rfl HO.out A1 n1 c1 L1 rfl (rd_of_fd (H1.out.below HB.out)) HN1.out (by unfold maxLen; omega) (by omega) HB.out.size ?_)
          intro v' w5 hown5 hgrow5
          have HB5 := Lib.hid (HB.out.grown hgrow5 HB.out.size (fun j hj => (HO.out.lt j hj).1))
          have HO5 := Lib.hid hown5
          clear hown5 hgrow5
          go_wp2_with fail
          go_roundg (gk - 1)
          case measure => omega
          case rel => exact ⟨1, L1, by omega, by go_num, .inr (.inl ⟨rfl, rfl⟩), by rw [HN1.out]; simpa using HO5.out, HB5.out⟩
        · subst hv
          rw [HN1.out] at HO ⊢
          go_wp2_with (at_builtin; refine wpList_append_rd fdC_len fdC_one _ rfl _ _ 22 rfl w.heap.size 49 i0 (.agg #[.string ⟨#[]⟩, .int .i64 0, .int .i64 0, .string ⟨#[]⟩]) 48 Tryz.underlying22 HI.out.1 HI.out.2.1 HI.out.2.2.1 HI.out.2.2.2 rfl (by decide) (.slice B n1 c) n1 _ rfl HO.out A2 n2 c2 L2 rfl (rd_of_fd (H2.out.below HB.out)) HN2.out (by unfold maxLen; omega) (by omega) HB.out.size ?_)
          intro v' w5 hown5 hgrow5
          have HB5 := Lib.hid (HB.out.grown hgrow5 HB.out.size (fun j hj => (HO.out.lt j hj).1))
          have HO5 := Lib.hid hown5
          clear hown5 hgrow5
          go_wp2_with fail
          go_roundg (gk - 1)
          case measure => omega
          case rel => exact ⟨2, M ++ L2, by omega, by go_num, .inr (.inr ⟨rfl, rfl⟩), by rw [List.length_append, HN1.out, HN2.out, List.flatMap_append]; exact HO5.out, HB5.out⟩
        · subst hv
          rw [show (L1 ++ L2).length = n1 + n2 by rw [List.length_append, HN1.out, HN2.out]] at HO ⊢
          clear q0 q1
          go_wp2_with fail
          go_ret
          exact ⟨_, rfl, by have := HO.out; rw [List.flatMap_append] at this; exact this, HB.out⟩
end
section
/-- the fields after some were set -/
def setsL (d l : List Fd) : List Fd := l.foldl (fun d f => setF d f.nm f.v) d
/-- the last value of a name, if it is set -/
def lastV (l : List Fd) (nm : ByteArray) (v : Vl) : Vl := l.foldl (fun acc g => if g.nm = nm then g.v else acc) v
def lastO (l : List Fd) (nm : ByteArray) (o : Option Vl) : Option Vl := l.foldl (fun acc g => if g.nm = nm then some g.v else acc) o
/-- a field that is not allowed -/
def badF (f : Fd) : Bool := !isNameB f.nm.data.toList || !f.v.ok
theorem badF_no {f : Fd} (h : badF f = false) : isNameB f.nm.data.toList = true ∧ f.v.ok = true := by
  unfold badF at h
  simpa using h
theorem sets_snoc (d l : List Fd) (k : Nat) (h : k < l.length) : setsL d (l.take (k + 1)) = setF (setsL d (l.take k)) l[k].nm l[k].v := by
  unfold setsL
  rw [List.take_succ_eq_append_getElem h, List.foldl_append]; rfl
theorem last_snoc (l : List Fd) (nm : ByteArray) (v : Vl) (k : Nat) (h : k < l.length) : lastV (l.take (k + 1)) nm v = if l[k].nm = nm then l[k].v else lastV (l.take k) nm v := by
  unfold lastV
  rw [List.take_succ_eq_append_getElem h, List.foldl_append]; rfl
theorem getF_sorted (L : List Fd) (hs : SortF L) (i : Nat) (hi : i < L.length) : getF L L[i].nm = some L[i].v :=
  getF_at L _ i hi rfl fun k hk _ => ltN_ne (hs k i hk hi)
theorem getF_mem (L : List Fd) (hs : SortF L) (f : Fd) (hf : f ∈ L) : getF L f.nm = some f.v := by
  obtain ⟨i, hi, rfl⟩ := List.getElem_of_mem hf
  exact getF_sorted L hs i hi
theorem getF_eq_none {L : List Fd} {nm : ByteArray} (h : getF L nm = none) : ∀ f ∈ L, f.nm ≠ nm := by
  intro f hf e
  unfold getF at h
  rw [Option.map_eq_none_iff, List.find?_eq_none] at h
  exact absurd (by simpa using e) (h f hf)
theorem getF_some {L : List Fd} {nm : ByteArray} {v : Vl} (h : getF L nm = some v) : (⟨nm, v⟩ : Fd) ∈ L := by
  unfold getF at h
  rw [Option.map_eq_some_iff] at h
  obtain ⟨f, hf, rfl⟩ := h
  have h1 := List.mem_of_find?_eq_some hf
  have h2 := List.find?_some hf
  have h3 : f.nm = nm := by simpa using h2
  subst h3; exact h1
theorem mem_setF_new (L : List Fd) (nm : ByteArray) (v : Vl) : (⟨nm, v⟩ : Fd) ∈ setF L nm v := by
  unfold setF
  split
  · rename_i h
    obtain ⟨hp, _⟩ := hasF_at L nm h
    exact List.mem_set hp _
  · simp
theorem mem_setF_old (L : List Fd) (nm : ByteArray) (v : Vl) (f : Fd) (hf : f ∈ L) (hn : f.nm ≠ nm) : f ∈ setF L nm v := by
  unfold setF
  split
  · rename_i h
    obtain ⟨hp, e⟩ := hasF_at L nm h
    obtain ⟨i, hi, rfl⟩ := List.getElem_of_mem hf
    have hne : posF L nm ≠ i := fun e2 => hn (by subst e2; exact e)
    rw [List.mem_iff_getElem]
    exact ⟨i, by rw [List.length_set]; exact hi, by rw [List.getElem_set_ne hne]⟩
  · rw [List.mem_append, List.mem_cons]
    have : f ∈ L.take (posF L nm) ++ L.drop (posF L nm) := by rw [List.take_append_drop]; exact hf
    rcases List.mem_append.1 this with h | h
    · exact .inl h
    · exact .inr (.inr h)
theorem getF_setF (L : List Fd) (hs : SortF L) (nm : ByteArray) (v : Vl) (x : ByteArray) : getF (setF L nm v) x = if nm = x then some v else getF L x := by
  have hs2 := setF_sort L hs nm v
  by_cases e : nm = x
  · subst e
    rw [if_pos rfl]; exact getF_mem _ hs2 _ (mem_setF_new L nm v)
  · rw [if_neg e]
    cases h : getF L x with
    | some u => exact getF_mem _ hs2 ⟨x, u⟩ (mem_setF_old L nm v _ (getF_some h) (Ne.symm e))
    | none =>
      refine getF_no _ _ (fun f hf e2 => ?_)
      rcases mem_setF L nm v f hf with h1 | h1
      · exact getF_eq_none h f h1 e2
      · subst h1; exact e e2
theorem sets_sort (l : List Fd) : ∀ d, SortF d → SortF (setsL d l) := by
  induction l with
  | nil => intro d h; exact h
  | cons f l ih => intro d h; exact ih _ (setF_sort d h _ _)
theorem getF_sets (l : List Fd) : ∀ (d : List Fd), SortF d → ∀ x, getF (setsL d l) x = lastO l x (getF d x) := by
  induction l with
  | nil => intro d _ x; rfl
  | cons f l ih =>
    intro d h x
    have := ih (setF d f.nm f.v) (setF_sort d h _ _) x
    rw [getF_setF d h] at this
    exact this
theorem lastO_some (l : List Fd) (x : ByteArray) : ∀ v, lastO l x (some v) = some (lastV l x v) := by
  induction l with
  | nil => intro v; rfl
  | cons f l ih =>
    intro v
    unfold lastO lastV
    rw [List.foldl_cons, List.foldl_cons]
    by_cases e : f.nm = x
    · rw [if_pos e, if_pos e]; exact ih _
    · rw [if_neg e, if_neg e]; exact ih _
theorem lastO_in (l : List Fd) (x : ByteArray) (v : Vl) : ∀ o, (∃ g ∈ l, g.nm = x) → lastO l x o = some (lastV l x v) := by
  induction l generalizing v with
  | nil => rintro o ⟨g, hg, _⟩; cases hg
  | cons f l ih =>
    rintro o ⟨g, hg, e⟩
    by_cases hf : f.nm = x
    · have := lastO_some l x f.v
      unfold lastO lastV at *
      rw [List.foldl_cons, List.foldl_cons, if_pos hf, if_pos hf]; exact this
    · have hg2 : g ∈ l := by
        rcases List.mem_cons.1 hg with rfl | h
        · exact absurd e hf
        · exact h
      have := ih v o ⟨g, hg2, e⟩
      unfold lastO lastV at *
      rw [List.foldl_cons, List.foldl_cons, if_neg hf, if_neg hf]; exact this
/-- each field that was there, or was set, has its last value -/
theorem sets_last (d l : List Fd) (hs : SortF d) (f : Fd) (hf : f ∈ d ++ l) : getF (setsL d l) f.nm = some (lastV l f.nm f.v) := by
  rw [getF_sets l d hs]
  rcases List.mem_append.1 hf with h | h
  · rw [getF_mem d hs f h]; exact lastO_some l _ _
  · exact lastO_in l _ _ _ ⟨f, h, rfl⟩
theorem sets_from (l : List Fd) : ∀ (d : List Fd) (f : Fd), f ∈ setsL d l → (d ++ l).any (fun g => decide (g.nm = f.nm)) = true := by
  have key : ∀ (l d : List Fd) (f : Fd), f ∈ setsL d l → ∃ g ∈ d ++ l, g.nm = f.nm := by
    intro l
    induction l with
    | nil => intro d f hf; exact ⟨f, by rw [List.append_nil]; exact hf, rfl⟩
    | cons x l ih =>
      intro d f hf
      obtain ⟨g, hg, e⟩ := ih (setF d x.nm x.v) f hf
      rcases List.mem_append.1 hg with h | h
      · rcases mem_setF d x.nm x.v g h with h2 | h2
        · exact ⟨g, by simp [h2], e⟩
        · exact ⟨x, by simp, by rw [← e, h2]⟩
      · exact ⟨g, by simp [h], e⟩
  intro d f hf
  obtain ⟨g, hg, e⟩ := key l d f hf
  exact List.any_eq_true.2 ⟨g, hg, by simpa using e⟩
/-- an event with other fields -/
def Ev.wd (e : Ev) (D : List Fd) : Ev := ⟨e.c, e.a, e.r, e.life, e.time, D⟩
theorem wd_ok (e : Ev) (D : List Fd) (h : e.ok = true) (hf : fdsB D = true) (hl : D.length ≤ 8) : (e.wd D).ok = true := by
  unfold Ev.ok Ev.head at h ⊢
  simp only [Bool.and_eq_true, decide_eq_true_eq] at h ⊢
  obtain ⟨⟨h1, h2, h3, h4⟩, _⟩ := h
  exact ⟨⟨h1, h2, h3, h4.1, h4.2.1, h4.2.2.1, h4.2.2.2.1, hl⟩, hf⟩
theorem ok_small (e : Ev) (h : e.ok = true) : e.fit 9223372036854775000 ∧ e.d.length ≤ 8 ∧ SortF e.d ∧ fdsB e.d = true := by
  have hl := (ws_ok e h).2.1
  have hfb : fdsB e.d = true := by unfold Ev.ok at h; rw [Bool.and_eq_true] at h; exact h.2
  refine ⟨⟨?_, ?_, ?_, fun f hf => ?_⟩, (ev_head e h).2.2.2.2, sort_of _ hfb, hfb⟩
  · have := hl e.c.data.toList (by unfold Ev.ws; simp); rw [len_byte] at this; omega
  · have := hl e.a.data.toList (by unfold Ev.ws; simp); rw [len_byte] at this; omega
  · have := hl e.r.data.toList (by unfold Ev.ws; simp); rw [len_byte] at this; omega
  · have h1 := hl f.tx (by unfold Ev.ws; simp; exact .inr (.inr (.inr (.inr (.inr ⟨f, hf, rfl⟩)))))
    have h2 := val_small f.v (ev_names e h f hf).2
    have h3 : f.nm.data.toList.length ≤ f.tx.length := by unfold Fd.tx; simp
    rw [len_byte] at h3
    omega
/-- a field is set in a valid event -/
theorem set_step (e : Ev) (D : List Fd) (f : Fd) (he : e.ok = true) (hD : (e.wd D).ok = true) (hf : badF f = false) :
    (wiR (e.wd D) f.nm f.v = .error 5 ∧ D.length = 8) ∨ (wiR (e.wd D) f.nm f.v = .ok (e.wd (setF D f.nm f.v)) ∧ (e.wd (setF D f.nm f.v)).ok = true) := by
  obtain ⟨h1, h2⟩ := badF_no hf
  obtain ⟨_, h8, _, hfb⟩ := ok_small _ hD
  by_cases hl : (setF D f.nm f.v).length ≤ 8
  · exact .inr ⟨wiR_ok (e := e.wd D) hD h2 h1 hl, wd_ok e _ he (setF_ok D hfb _ _ h1 h2) hl⟩
  · refine .inl ⟨wiR_full (e := e.wd D) hD h2 h1 (by show 8 < (setF D f.nm f.v).length; omega), ?_⟩
    have := setF_len D f.nm f.v
    have h8' : D.length ≤ 8 := h8
    split at this <;> omega
end
section
open Go.RowKit

set_option maxHeartbeats 400000 in
theorem rvtextL_any (s : ByteArray) (w : World) (hs : s.size ≤ 9223372036854775807) :
    Calls Tryz.prog 56 #[.string s] w fun e w' => e = .returned (.bool (decide (s.size ≤ 200) && s.data.toList.all isPr)) ∧ Below w.heap.size w w' := by
  by_cases h : s.size ≤ 200
  · have q : (s.size : Int) ≤ 200 := by omega
    have HV := Lib.hid (show decide (s.size ≤ 200) = true by simpa using h)
    have HC := Lib.hid (fun w => sprintable_any s w (by omega))
    generalize s.data.toList.all isPr = r at HC ⊢
    clear h
    go_enter Tryz.func56, Tryz.ntmps56
    go_wp2_with fail
    ((with_reducible refine (HC.out _).mono ?_); rintro e w1 ⟨rfl, rfl⟩)
    go_wp2_with fail
    go_ret
    exact ⟨ret_bool (by rw [HV.out]; simp), Below.refl _ _⟩
  · have q : (200 : Int) < (s.size : Int) := by omega
    have HV : decide (s.size ≤ 200) = false := by simpa using h
    go_enter Tryz.func56, Tryz.ntmps56
    go_wp2_with fail
    go_ret
    exact ⟨rfl, Below.refl _ _⟩
set_option maxHeartbeats 3200000 in
theorem rvvalidL_any (v : Vl) (w : World) (hs : v.s.size ≤ 9223372036854775807) :
    Calls Tryz.prog 24 #[.agg #[.int .i64 v.k, .int .i64 v.n, .string v.s]] w fun e w' => e = .returned (.bool v.ok) ∧ Below w.heap.size w w' := by
  obtain ⟨k, n, s⟩ := v
  simp only at hs ⊢
  by_cases h1 : k = 1
  · subst h1
    have HV := Lib.hid (ok_truth n s)
    by_cases h0 : n = 0
    · subst h0
      rcases empty_facts s with ⟨e0, e1, e2, e3⟩ | ⟨e0, e2, e3⟩
      · have HE := Lib.hid e0; clear e0
        go_enter Tryz.func24, Tryz.ntmps24
        go_wp2_with fail
        go_ret
        exact ⟨ret_bool (by rw [HV.out]; simp [HE.out]), below_alloc w _⟩
      · have HE := Lib.hid e0; clear e0
        go_enter Tryz.func24, Tryz.ntmps24
        go_wp2_with fail
        go_ret
        exact ⟨ret_bool (by rw [HV.out]; simp only [HE.out]; simp), below_alloc w _⟩
    · by_cases h01 : n = 1
      · subst h01
        rcases empty_facts s with ⟨e0, e1, e2, e3⟩ | ⟨e0, e2, e3⟩
        · have HE := Lib.hid e0; clear e0
          go_enter Tryz.func24, Tryz.ntmps24
          go_wp2_with fail
          go_ret
          exact ⟨ret_bool (by rw [HV.out]; simp [HE.out]), below_alloc w _⟩
        · have HE := Lib.hid e0; clear e0
          go_enter Tryz.func24, Tryz.ntmps24
          go_wp2_with fail
          go_ret
          exact ⟨ret_bool (by rw [HV.out]; simp only [HE.out]; simp), below_alloc w _⟩
      · have q0 : (n == 0) = false := by simpa using h0
        have q1 : (n == 1) = false := by simpa using h01
        have HE := Lib.hid (show decide ((n = 0 ∨ n = 1) ∧ s.data.toList = []) = false by simp [h0, h01])
        clear h0 h01
        go_enter Tryz.func24, Tryz.ntmps24
        go_wp2_with fail
        go_ret
        exact ⟨ret_bool (by rw [HV.out, HE.out]), below_alloc w _⟩
  by_cases h2 : k = 2
  · subst h2
    have HV := Lib.hid (ok_num n s)
    have HN := Lib.hid (fun w => rvnumber_any n w)
    clear h1
    cases hn : numB n with
    | false =>
      rw [hn] at HV HN
      clear hn
      go_enter Tryz.func24, Tryz.ntmps24
      go_wp2_with fail
      ((with_reducible refine (HN.out _).mono ?_); rintro e w1 ⟨rfl, rfl⟩)
      go_wp2_with fail
      go_ret
      exact ⟨ret_bool (by rw [HV.out]; rfl), below_alloc w _⟩
    | true =>
      rw [hn] at HV HN
      clear hn
      rcases empty_facts s with ⟨e0, e1, e2, e3⟩ | ⟨e0, e2, e3⟩
      · have HE := Lib.hid e0; clear e0
        go_enter Tryz.func24, Tryz.ntmps24
        go_wp2_with fail
        ((with_reducible refine (HN.out _).mono ?_); rintro e w1 ⟨rfl, rfl⟩)
        go_wp2_with fail
        go_ret
        exact ⟨ret_bool (by rw [HV.out]; simp [HE.out]), below_alloc w _⟩
      · have HE := Lib.hid e0; clear e0
        go_enter Tryz.func24, Tryz.ntmps24
        go_wp2_with fail
        ((with_reducible refine (HN.out _).mono ?_); rintro e w1 ⟨rfl, rfl⟩)
        go_wp2_with fail
        go_ret
        exact ⟨ret_bool (by rw [HV.out]; simp only [HE.out]; simp), below_alloc w _⟩
  by_cases h3 : k = 3
  · subst h3
    have HV := Lib.hid (ok_text n s)
    clear h1 h2
    by_cases h0 : n = 0
    · subst h0
      have HT := Lib.hid (fun w => rvtextL_any s w hs)
      generalize (decide (s.size ≤ 200) && s.data.toList.all isPr) = r at HV HT
      go_enter Tryz.func24, Tryz.ntmps24
      go_wp2_with fail
      ((with_reducible refine (HT.out _).mono ?_); rintro e w1 ⟨rfl, hb1⟩)
      go_wp2_with fail
      go_ret
      exact ⟨ret_bool (by rw [HV.out]; simp), below_then (below_alloc w _) hb1⟩
    · have q0 : (n == 0) = false := by simpa using h0
      have HE := Lib.hid (show decide (n = 0) = false by simpa using h0)
      clear h0
      go_enter Tryz.func24, Tryz.ntmps24
      go_wp2_with fail
      go_ret
      exact ⟨ret_bool (by rw [HV.out, HE.out]; rfl), below_alloc w _⟩
  · have HV := Lib.hid (ok_else k n s h1 h2 h3)
    have q1 : (k == 1) = false := by simpa using h1
    have q2 : (k == 2) = false := by simpa using h2
    have q3 : (k == 3) = false := by simpa using h3
    clear h1 h2 h3
    go_enter Tryz.func24, Tryz.ntmps24
    go_wp2_with fail
    go_ret
    exact ⟨ret_bool HV.out.symm, below_alloc w _⟩
set_option maxHeartbeats 1600000 in
theorem sisNameL_any (s : ByteArray) (w : World) (hs : s.size ≤ 9223372036854775807) : Calls Tryz.prog 23 #[.string s] w fun e w' => e = .returned (.bool (isNameB s.data.toList)) ∧ w = w' := by
  by_cases h : s.size ≤ 9223372036854775000
  · exact sisName_any s w h
  · have h4 : 40 < s.size := by omega
    have HV := Lib.hid (isName_long s h4)
    have q0 : (40 : Int) < (s.size : Int) := by omega
    clear h h4
    go_enter Tryz.func23, Tryz.ntmps23
    go_wp2_with fail
    go_ret
    exact ⟨ret_bool HV.out.symm, rfl⟩
/-- a field with the name of another one -/
def eqF (y f : Fd) : Bool := decide (f.nm = y.nm)
set_option maxHeartbeats 1600000 in
theorem sets1_any (f : Fd) (w : World) (h1 : f.nm.size ≤ 9223372036854775807) (h2 : f.v.s.size ≤ 9223372036854775807) : Calls Tryz.prog 22 #[.agg #[.string f.nm, .int .i64 f.v.k, .int .i64 f.v.n, .string f.v.s]] w fun e w' => e = .returned (.bool (badF f)) ∧ Below w.heap.size w w' := by
  have HB := Lib.hid (below_alloc w (.cells #[.string f.nm, .int .i64 f.v.k, .int .i64 f.v.n, .string f.v.s] 49))
  have HN := Lib.hid (fun w => sisNameL_any f.nm w h1)
  have HV := Lib.hid (fun w => rvvalidL_any f.v w h2)
  have HR := Lib.hid (show badF f = (!isNameB f.nm.data.toList || !f.v.ok) from rfl)
  generalize badF f = R at HR ⊢
  clear h1 h2
  cases hn : isNameB f.nm.data.toList with
  | false =>
    rw [hn] at HN HR
    clear hn
    go_enter Tryz.func22, Tryz.ntmps22
    go_wp2_with fail
    ((with_reducible refine (HN.out _).mono ?_); rintro e w1 ⟨rfl, rfl⟩)
    go_wp2_with fail
    go_ret
    exact ⟨ret_bool (by rw [HR.out]; rfl), HB.out⟩
  | true =>
    rw [hn] at HN HR
    clear hn
    generalize f.v.ok = q at HV HR
    go_enter Tryz.func22, Tryz.ntmps22
    go_wp2_with fail
    ((with_reducible refine (HN.out _).mono ?_); rintro e w1 ⟨rfl, rfl⟩)
    go_wp2_with fail
    ((with_reducible refine (HV.out _).mono ?_); rintro e w1 ⟨rfl, hb1⟩)
    go_wp2_with fail
    go_ret
    exact ⟨ret_bool (by rw [HR.out]; rfl), below_then HB.out hb1⟩
set_option maxHeartbeats 1600000 in
theorem sets2_any (f y : Fd) (pb : Nat) (w : World) (hy : FB w pb y) : Calls Tryz.prog 26 #[.agg #[.string f.nm, .int .i64 f.v.k, .int .i64 f.v.n, .string f.v.s], .pointer (some ⟨pb, 0, none⟩)] w fun e w' => e = .returned (.bool (eqF y f)) ∧ Below w.heap.size w w' := by
  have HB := Lib.hid (below_alloc w (.cells #[.string f.nm, .int .i64 f.v.k, .int .i64 f.v.n, .string f.v.s] 49))
  have hlt := hy.lt
  have hc := hy.cells.1
  by_cases e : f.nm = y.nm
  · have q1 : (f.nm.toList == y.nm.toList) = true := by rw [e]; exact beq_self_eq_true _
    have HR := Lib.hid (show eqF y f = true by unfold eqF; exact decide_eq_true e)
    clear e
    go_enter Tryz.func26, Tryz.ntmps26
    go_wp2_with fail
    go_ret
    exact ⟨ret_bool (by rw [HR.out]), HB.out⟩
  · have q1 : (f.nm.toList == y.nm.toList) = false := str_ne _ _ (fun h => e (bytes_ext h))
    have HR := Lib.hid (show eqF y f = false by unfold eqF; exact decide_eq_false e)
    clear e
    go_enter Tryz.func26, Tryz.ntmps26
    go_wp2_with fail
    go_ret
    exact ⟨ret_bool (by rw [HR.out]), HB.out⟩
set_option maxHeartbeats 3200000 in
set_option maxRecDepth 100000 in
theorem findex_bad (A : Option Addr) (n cap : Nat) (L : List Fd) (w : World) (h : FdIn w A L) (hn : L.length = n) (hn4 : n ≤ 1000000) (hs : ∀ f ∈ L, f.nm.size ≤ 9223372036854775807 ∧ f.v.s.size ≤ 9223372036854775807) :
    Calls Tryz.prog 53 #[.slice A n cap, .func (.func 22) #[] #[]] w (BIdx (!(L.any badF)) w) := by
  have H0 := Lib.hid h; clear h
  have HN := Lib.hid hn; clear hn
  have HSz := Lib.hid hs; clear hs
  go_enter Tryz.func53, Tryz.ntmps53
  go_wp2_with fail
  go_loopg [8] (n) (fun g i wr => ∃ k : Nat, k + g = n ∧ i = .int .i64 k ∧ (L.take k).any badF = false ∧ Below w.heap.size w wr)
  case atStart => exact ⟨0, by omega, rfl, by simp, Below.refl _ _⟩
  case round =>
    obtain ⟨k, hk, rfl, hno, hB⟩ := hrel
    have HK := Lib.hid hk
    have HNo := Lib.hid hno
    have HB := Lib.hid hB
    have HT := Lib.hid (H0.out.below hB)
    have hle : k ≤ n := by omega
    clear hk hno hB
    by_cases hlt : k < n
    · have hlt' : k < L.length := by rw [HN.out]; exact hlt
      obtain ⟨ad, rfl, hp, c0, c1, c2, c3⟩ := HT.out k hlt'
      have hsz := HSz.out _ (List.getElem_mem hlt')
      have HTk := Lib.hid (List.take_succ_eq_append_getElem hlt')
      have HM := Lib.hid (List.getElem_mem hlt')
      generalize L[k] = x at *
      have HX := Lib.hid (fun w => sets1_any x w hsz.1 hsz.2)
      clear hsz
      cases hv : badF x with
      | true =>
        rw [hv] at HX
        have HV := Lib.hid hv; clear hv
        go_wp2_with fail
        ((with_reducible refine (HX.out _).mono ?_); rintro e w1 ⟨rfl, hb1⟩)
        go_wp2_with fail
        go_ret
        refine BIdx.yes ?_ rfl (below_then HB.out hb1)
        rw [List.any_eq_true.2 ⟨x, HM.out, HV.out⟩]; rfl
      | false =>
        rw [hv] at HX
        have HV := Lib.hid hv; clear hv
        go_wp2_with fail
        ((with_reducible refine (HX.out _).mono ?_); rintro e w1 ⟨rfl, hb1⟩)
        have HB1 := Lib.hid (below_then HB.out hb1)
        clear hb1
        go_wp2_with fail
        go_roundg (gk - 1)
        case measure => have := HK.out; omega
        case rel => exact ⟨k + 1, by have := HK.out; omega, by go_num, by rw [HTk.out, List.any_append, HNo.out]; simp [HV.out], HB1.out⟩
    · have HE := Lib.hid (show L.take k = L from List.take_of_length_le (by have := HN.out; omega))
      go_wp2_with fail
      go_ret
      refine BIdx.no ?_ rfl HB.out
      rw [← HE.out, HNo.out]; rfl
set_option maxHeartbeats 800000 in
theorem fcont_bad (A : Option Addr) (n cap : Nat) (L : List Fd) (w : World) (h : FdIn w A L) (hn : L.length = n) (hn4 : n ≤ 1000000) (hs : ∀ f ∈ L, f.nm.size ≤ 9223372036854775807 ∧ f.v.s.size ≤ 9223372036854775807) :
    Calls Tryz.prog 21 #[.slice A n cap, .func (.func 22) #[] #[]] w fun e w' => e = .returned (.bool (L.any badF)) ∧ Below w.heap.size w w' := by
  have HI := Lib.hid (findex_bad A n cap L w h hn hn4 hs)
  clear h hn hs
  generalize L.any badF = r at HI ⊢
  cases r with
  | false =>
    go_enter Tryz.func21, Tryz.ntmps21
    go_wp2_with fail
    ((with_reducible refine HI.out.mono ?_); rintro e w1 hP)
    obtain ⟨he, hb⟩ := hP
    have he' : e = .returned (.int .i64 (-1)) := he
    clear he; subst he'
    go_wp2_with fail
    go_ret
    exact ⟨rfl, hb⟩
  | true =>
    go_enter Tryz.func21, Tryz.ntmps21
    go_wp2_with fail
    ((with_reducible refine HI.out.mono ?_); rintro e w1 hP)
    obtain ⟨he, hb⟩ := hP
    obtain ⟨i, he'⟩ : ∃ i : Nat, e = .returned (.int .i64 i) := he
    subst he'
    go_wp2_with fail
    go_ret
    exact ⟨rfl, hb⟩
set_option maxHeartbeats 3200000 in
set_option maxRecDepth 100000 in
theorem findex_eq (A : Option Addr) (n cap : Nat) (L : List Fd) (w : World) (h : FdIn w A L) (hn : L.length = n) (hn4 : n ≤ 1000000) (y : Fd) (pb : Nat) (hs : FB w pb y) :
    Calls Tryz.prog 53 #[.slice A n cap, .func (.func 26) #[] #[.pointer (some ⟨pb, 0, none⟩)]] w (BIdx (!(L.any (eqF y))) w) := by
  have H0 := Lib.hid h; clear h
  have HN := Lib.hid hn; clear hn
  have HSz := Lib.hid hs; clear hs
  go_enter Tryz.func53, Tryz.ntmps53
  go_wp2_with fail
  go_loopg [8] (n) (fun g i wr => ∃ k : Nat, k + g = n ∧ i = .int .i64 k ∧ (L.take k).any (eqF y) = false ∧ Below w.heap.size w wr)
  case atStart => exact ⟨0, by omega, rfl, by simp, Below.refl _ _⟩
  case round =>
    obtain ⟨k, hk, rfl, hno, hB⟩ := hrel
    have HK := Lib.hid hk
    have HNo := Lib.hid hno
    have HB := Lib.hid hB
    have HT := Lib.hid (H0.out.below hB)
    have hle : k ≤ n := by omega
    clear hk hno hB
    by_cases hlt : k < n
    · have hlt' : k < L.length := by rw [HN.out]; exact hlt
      obtain ⟨ad, rfl, hp, c0, c1, c2, c3⟩ := HT.out k hlt'
      have HTk := Lib.hid (List.take_succ_eq_append_getElem hlt')
      have HM := Lib.hid (List.getElem_mem hlt')
      generalize L[k] = x at *
      have HX := Lib.hid (sets2_any x y pb wr (HSz.out.below HB.out))
      cases hv : (eqF y) x with
      | true =>
        rw [hv] at HX
        have HV := Lib.hid hv; clear hv
        go_wp2_with fail
        ((with_reducible refine HX.out.mono ?_); rintro e w1 ⟨rfl, hb1⟩)
        go_wp2_with fail
        go_ret
        refine BIdx.yes ?_ rfl (below_then HB.out hb1)
        rw [List.any_eq_true.2 ⟨x, HM.out, HV.out⟩]; rfl
      | false =>
        rw [hv] at HX
        have HV := Lib.hid hv; clear hv
        go_wp2_with fail
        ((with_reducible refine HX.out.mono ?_); rintro e w1 ⟨rfl, hb1⟩)
        have HB1 := Lib.hid (below_then HB.out hb1)
        clear hb1
        go_wp2_with fail
        go_roundg (gk - 1)
        case measure => have := HK.out; omega
        case rel => exact ⟨k + 1, by have := HK.out; omega, by go_num, by rw [HTk.out, List.any_append, HNo.out]; simp [HV.out], HB1.out⟩
    · have HE := Lib.hid (show L.take k = L from List.take_of_length_le (by have := HN.out; omega))
      go_wp2_with fail
      go_ret
      refine BIdx.no ?_ rfl HB.out
      rw [← HE.out, HNo.out]; rfl
set_option maxHeartbeats 800000 in
theorem fcont_eq (A : Option Addr) (n cap : Nat) (L : List Fd) (w : World) (h : FdIn w A L) (hn : L.length = n) (hn4 : n ≤ 1000000) (y : Fd) (pb : Nat) (hs : FB w pb y) :
    Calls Tryz.prog 21 #[.slice A n cap, .func (.func 26) #[] #[.pointer (some ⟨pb, 0, none⟩)]] w fun e w' => e = .returned (.bool (L.any (eqF y))) ∧ Below w.heap.size w w' := by
  have HI := Lib.hid (findex_eq A n cap L w h hn hn4 y pb hs)
  clear h hn hs
  generalize L.any (eqF y) = r at HI ⊢
  cases r with
  | false =>
    go_enter Tryz.func21, Tryz.ntmps21
    go_wp2_with fail
    ((with_reducible refine HI.out.mono ?_); rintro e w1 hP)
    obtain ⟨he, hb⟩ := hP
    have he' : e = .returned (.int .i64 (-1)) := he
    clear he; subst he'
    go_wp2_with fail
    go_ret
    exact ⟨rfl, hb⟩
  | true =>
    go_enter Tryz.func21, Tryz.ntmps21
    go_wp2_with fail
    ((with_reducible refine HI.out.mono ?_); rintro e w1 hP)
    obtain ⟨he, hb⟩ := hP
    obtain ⟨i, he'⟩ : ∃ i : Nat, e = .returned (.int .i64 i) := he
    subst he'
    go_wp2_with fail
    go_ret
    exact ⟨rfl, hb⟩
end
end Go.Proofs.YtbbdgncjpbfooaaGreatDoor
