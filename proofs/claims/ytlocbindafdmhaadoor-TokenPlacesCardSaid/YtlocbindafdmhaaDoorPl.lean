/- Texts of tokens with blanks and comments between them, as TokenBlanks writes them: plain Lean, no program in sight. -/
import Derived.Test.YtlocbindafdmhaaDoorNk
namespace Go.Proofs.YtlocbindafdmhaaDoor
open Go.RowKit

/-- what TokenBlanks writes behind a token -/
def gapL : Nat → List UInt8
  | 0 => [32] | 1 => [32, 32] | 2 => [10] | 3 => [9, 13, 10, 32] | 4 => [32, 35, 32, 34, 97, 10] | _ => [35, 10, 35, 120, 32, 35, 10]
theorem gapL_cases (P : List UInt8 → Prop) (h0 : P [32]) (h1 : P [32, 32]) (h2 : P [10]) (h3 : P [9, 13, 10, 32]) (h4 : P [32, 35, 32, 34, 97, 10]) (h5 : P [35, 10, 35, 120, 32, 35, 10]) (r : Nat) : P (gapL r) := by
  unfold gapL; split <;> assumption
theorem gapL_len (r : Nat) : (gapL r).length ≤ 7 := gapL_cases (fun g => g.length ≤ 7) (by decide) (by decide) (by decide) (by decide) (by decide) (by decide) r
theorem gapL_gap (r : Nat) : Gap (gapL r) := by
  refine gapL_cases Gap ?_ ?_ ?_ ?_ ?_ ?_ r
  · intro r; show skipN r false + 1 = 1 + _; omega
  · intro r; show skipN r false + 2 = 2 + _; omega
  · intro r; show skipN r false + 1 = 1 + _; omega
  · intro r; show skipN r false + 4 = 4 + _; omega
  · intro r; show skipN r false + 6 = 6 + _; omega
  · intro r; show skipN r false + 7 = 7 + _; omega
theorem gapL_stop (r : Nat) : ∀ m, Stop (gapL r ++ m) := by
  refine gapL_cases (fun g => ∀ m, Stop (g ++ m)) ?_ ?_ ?_ ?_ ?_ ?_ r <;> exact fun m => .inr ⟨_, _, rfl, by decide⟩
theorem segOk_of (s : List (Td × List UInt8)) (h : ∀ p ∈ s, p.1.ok = true ∧ p.1.k ≠ 5 ∧ Gap p.2 ∧ ∀ m, Stop (p.2 ++ m)) : SegOk s := by
  induction s with
  | nil => trivial
  | cons x s ih =>
    obtain ⟨h1, h2, h3, h4⟩ := h x (by simp)
    exact ⟨h1, h2, h3, h4 _, ih (fun p hp => h p (by simp [hp]))⟩
/-- the text of the first k tokens -/
def segTo (L : List Td) (R : Nat → Nat) : Nat → List (Td × List UInt8)
  | 0 => []
  | k + 1 => match L[k]? with | some x => if x.k = 5 then segTo L R k else segTo L R k ++ [(x, gapL (R k))] | none => segTo L R k
theorem segTo_end (L : List Td) (R : Nat → Nat) (k : Nat) (h : k < L.length) (h5 : L[k].k = 5) : segTo L R (k + 1) = segTo L R k := by
  rw [segTo, List.getElem?_eq_getElem h]; simp only [if_pos h5]
theorem segTo_next (L : List Td) (R : Nat → Nat) (k : Nat) (h : k < L.length) (h5 : L[k].k ≠ 5) : segTo L R (k + 1) = segTo L R k ++ [(L[k], gapL (R k))] := by
  rw [segTo, List.getElem?_eq_getElem h]; simp only [if_neg h5]
theorem segT_snoc (s : List (Td × List UInt8)) (x : Td × List UInt8) : segT (s ++ [x]) = segT s ++ (x.1.tx ++ x.2) := by unfold segT; simp
theorem segTo_mem (L : List Td) (R : Nat → Nat) (k : Nat) : k ≤ L.length → ∀ p ∈ segTo L R k, p.1 ∈ L ∧ p.1.k ≠ 5 ∧ ∃ r, p.2 = gapL r := by
  induction k with
  | zero => intro _ p hp; simp [segTo] at hp
  | succ k ih =>
    intro hk p hp
    by_cases h5 : (L[k]).k = 5
    · rw [segTo_end L R k (by omega) h5] at hp; exact ih (by omega) p hp
    · rw [segTo_next L R k (by omega) h5] at hp
      rcases List.mem_append.1 hp with h | h
      · exact ih (by omega) p h
      · rw [List.mem_singleton.1 h]; exact ⟨List.getElem_mem _, h5, _, rfl⟩
theorem segTo_len (L : List Td) (R : Nat → Nat) (h : ∀ t ∈ L, t.tx.length ≤ 202) (k : Nat) : k ≤ L.length → (segTo L R k).length ≤ k ∧ (segT (segTo L R k)).length ≤ 209 * k := by
  induction k with
  | zero => intro _; simp [segTo, segT]
  | succ k ih =>
    intro hk
    obtain ⟨h1, h2⟩ := ih (by omega)
    by_cases h5 : (L[k]).k = 5
    · rw [segTo_end L R k (by omega) h5]; omega
    · rw [segTo_next L R k (by omega) h5, segT_snoc]
      have h3 := h L[k] (List.getElem_mem _)
      have h4 := gapL_len (R k)
      simp only [List.length_append, List.length_cons, List.length_nil]
      omega
theorem tokens_blanks (L : List Td) (R : Nat → Nat) (hj : joinB L = true) (ht : ∀ t ∈ L, t.tx.length ≤ 202) (h40 : L.length ≤ 40) :
    ∃ M, tokens (segT (segTo L R L.length)) = (M, (0, 0), 0) ∧ M.map (·.1) = ((segTo L R L.length).map (·.1) ++ [endT]).map Td.tok := by
  have hm := segTo_mem L R L.length (Nat.le_refl _)
  obtain ⟨l1, l2⟩ := segTo_len L R ht L.length (Nat.le_refl _)
  obtain ⟨M, h1, h2⟩ := tokens_segs (segTo L R L.length) (segOk_of _ (fun p hp => by
    obtain ⟨a, b, r, e⟩ := hm p hp
    exact ⟨joinB_all L hj _ a, b, by rw [e]; exact gapL_gap r, by rw [e]; exact gapL_stop r⟩)) (by omega) (by omega)
  refine ⟨M, h1, ?_⟩
  rw [h2, List.map_append, List.map_map]
  rfl
theorem want_nonneg (L : List Td) (R : Nat → Nat) (hj : joinB L = true) : ∀ t ∈ (segTo L R L.length).map (·.1) ++ [endT], 0 ≤ t.k ∧ 0 ≤ t.n := by
  intro t ht
  rcases List.mem_append.1 ht with h | h
  · obtain ⟨p, hp, rfl⟩ := List.mem_map.1 h
    exact ok_nonneg _ (joinB_all L hj _ (segTo_mem L R L.length (Nat.le_refl _) p hp).1)
  · rw [List.mem_singleton.1 h]; exact ⟨by decide, by decide⟩
/-- one valid token alone -/
theorem join_one (x : Td) (h : x.ok = true) (h5 : x.k ≠ 5) : joinB [x] = true ∧ joinL [x] = x.tx := by
  refine ⟨?_, ?_⟩
  · show (List.range 1).all (okAt [x]) = true
    show (okAt [x] 0 && true) = true
    unfold okAt; simp [h]
  · unfold joinL; rw [bodyN_all [x] 0 rfl h5]; simp [jn]
theorem read_one (T : TypeId) (w : World) (x : Td) : TkIn (w.alloc (.cells #[.int .i64 x.k, .string x.u, .int .i64 x.n, .int .i64 x.l, .int .i64 x.c] T)) (some ⟨w.heap.size, 0, none⟩) [x] := by
  intro i hi
  obtain rfl : i = 0 := by simp at hi; omega
  refine ⟨_, rfl, by simp [Addr.add], ?_⟩
  unfold TdAt
  simp [Addr.add]
theorem one_any (x : Td) (b : Nat) (w : World) (hk : TkIn w (some ⟨b, 0, none⟩) [x]) (hT : Tb w) (hu : x.u.size ≤ 100) (h : x.ok = true) (h5 : x.k ≠ 5) :
    Calls Tryd.prog 21 #[.slice (some ⟨b, 0, none⟩) 1 1] w fun e w' => e = .returned (.tuple #[.string ⟨x.tx.toArray⟩, .int .i64 0]) ∧ Below w.heap.size w w' := by
  obtain ⟨j1, j2⟩ := join_one x h h5
  have := tjoin_any (some ⟨b, 0, none⟩) 1 1 [x] w hk hT (fun t ht => by rw [List.mem_singleton.1 ht]; omega) rfl (by omega) (by omega) (by omega) (fun _ => by rw [j2]; have := tx_len x h hu; omega)
  rw [joinRet_yes j1, j2] at this
  exact this
/-- the numbers of the second argument -/
def KIn (w : World) (B : Option Addr) (K : List Nat) : Prop := ∀ i (h : i < K.length), ∃ ad, B = some ad ∧ (ad.add i).block < w.heap.size ∧ w.cell? (ad.add i) = some (.int .u8 (K[i] : Int))
theorem KIn.below {w w' : World} {B : Option Addr} {K : List Nat} (h : KIn w B K) (hb : Below w.heap.size w w') : KIn w' B K := by
  intro i hi
  obtain ⟨ad, e, h1, h2⟩ := h i hi
  exact ⟨ad, e, by have := hb.size; omega, by rw [hb.cell h1]; exact h2⟩
/-- a row of one's own stays behind what only allocates -/
theorem own_below {w w' : World} {b : Nat} {e : TypeId} {k : Nat} {v : Value} {n : Nat} {xs : List Value} (h : w.ownsRow b e k v n xs) (hb : Below w.heap.size w w') : w'.ownsRow b e k v n xs := by
  refine ⟨h.1, ?_⟩
  rcases h.2 with hn | ⟨g, cap, cur, rfl, hbb, hg, rest⟩
  · exact .inl hn
  · refine .inr ⟨g, cap, cur, rfl, hbb, ?_, rest⟩
    have hlt : g < w.heap.size := by
      rcases Nat.lt_or_ge g w.heap.size with h2 | h2
      · exact h2
      · rw [Array.getElem?_eq_none h2] at hg; cases hg
    rw [hb.block g hlt]; exact hg
/-- an append whose operation is behind '&&' and is done -/
theorem wpList_append_wanted {P : Program} {w : World} {ops : Array Oper} {rest : List Oper} {o : Oper} {a : Act} {Q : Exit → Act → World → Prop} (hw : Region.wanted o (yielded ops a.tmps) = true) (s x : Operand) (t : TypeId)
    (ho : o.op = .call { callee := .builtin .append, args := #[s, x], argTypes := #[t, t] })
    (base : Nat) (e : TypeId) (i : TypeInfo) (z : Value) (size bytes : Nat) (ht : P.underlying t = some (.slice e)) (hi : P.info? e = some i) (hz : i.zero = some z)
    (hsize : i.size = size) (hby : i.bytes = bytes) (hzs : z.cells.size = size) (hsz : 0 < size)
    (v : Value) (n : Nat) (xs : List Value) (hs : a.eval s = v) (hown : w.ownsRow base e size v n xs)
    (ad : Addr) (m c : Nat) (news : List Value) (hx : a.eval x = .slice (some ad) m c) (hl : news.length = m * size) (hnews : ∀ j u, news[j]? = some u → w.cell? (ad.add j) = some u) (h1 : ∀ u ∈ news, u.oneCell' = true)
    (h63 : n + m ≤ maxLen) (hbytes : (n + m) * bytes ≤ 140737488355328) (hbase : base ≤ w.heap.size)
    (h : ∀ v' w', w'.ownsRow base e size v' (n + m) (xs ++ news) → w.grownBy w' v.ownBlock → (v' = .slice none 0 0 ↔ v = .slice none 0 0 ∧ m = 0) → wpList P ops Q rest (a.put o.dst v') w') : wpList P ops Q (o :: rest) a w :=
  wpList_step fun _ hK => by
    simp only [hw, if_true]
    exact wp_append_own w s x t ho base e i z size bytes ht hi hz hsize hby hzs hsz v n xs hs hown ad m c news hx hl hnews h1 h63 hbytes hbase fun v' w' h2 h3 h4 => hK _ _ (h v' w' h2 h3 h4)
end Go.Proofs.YtlocbindafdmhaaDoor
