/- Texts of markings are different for different markings; a map from them to numbers. The coverability tree in memory. cover.grow: what a call returns. -/
import Derived.Test.YtkhmngljpfibcaaGreatDoorPUu
import Derived.Test.YtkhmngljpfibcaaGreatDoorPDf
import Derived.Test.YtkhmngljpfibcaaGreatDoorPDb
import Derived.Test.YtkhmngljpfibcaaGreatDoorPCp
import Derived.Test.YtkhmngljpfibcaaGreatDoorPHa
import Derived.Maps.OwnSet
import Derived.StringKeys
namespace Go.Proofs.YtkhmngljpfibcaaGreatDoor
section
open Go.RowKit Go.WideShapes

def dval (l : List UInt8) : Nat := l.foldl (fun n c => 10 * n + (c.toNat - 48)) 0
theorem dval_snoc (l : List UInt8) (c : UInt8) : dval (l ++ [c]) = 10 * dval l + (c.toNat - 48) := by unfold dval; simp
theorem dig_byte (k : Nat) (h : k < 10) : (UInt8.ofNat (48 + k)).toNat = 48 + k := by
 simp [UInt8.toNat_ofNat']; omega
theorem dec_induct {P : Nat → List UInt8 → Prop} (h0 : ∀ u, u < 10 → P u [UInt8.ofNat (48 + u)]) (hs : ∀ u, 10 ≤ u → P (u / 10) (Lib.decDigits (u / 10)) → P u (Lib.decDigits (u / 10) ++ [UInt8.ofNat (48 + u % 10)])) : ∀ u, P u (Lib.decDigits u) := by
 intro u
 induction u using Nat.strongRecOn with
 | _ u ih =>
  by_cases h : u < 10
  · rw [Lib.decDigits_one h]; exact h0 u h
  · rw [Lib.decDigits, dif_neg h]; exact hs u (by omega) (ih (u / 10) (by omega))
theorem dec_dig (u : Nat) : ∀ c ∈ Lib.decDigits u, isDig c = true := by
 refine dec_induct (P := fun _ l => ∀ c ∈ l, isDig c = true) ?_ ?_ u
 · intro u hu c hc;have : c = UInt8.ofNat (48 + u) := by simpa using hc
   subst this; unfold isDig; rw [dig_byte u hu]; simp; omega
 · intro u hu ih c hc;rcases List.mem_append.1 hc with h | h
   · exact ih c h
   · have : c = UInt8.ofNat (48 + u % 10) := by simpa using h
     subst this; unfold isDig; rw [dig_byte _ (by omega)]; simp; omega
theorem dec_val (u : Nat) : dval (Lib.decDigits u) = u := by
 refine dec_induct (P := fun u l => dval l = u) ?_ ?_ u
 · intro u hu; unfold dval; simp only [List.foldl]; rw [dig_byte u hu]; omega
 · intro u hu ih; rw [dval_snoc, ih, dig_byte _ (by omega)]; omega
theorem dec_ne (u : Nat) : Lib.decDigits u ≠ [] := by
 refine dec_induct (P := fun _ l => l ≠ []) ?_ ?_ u
 · intro u hu; simp
 · intro u hu ih; simp
def numOf (s : List UInt8) : Int := match s with | [] => 0 | c :: r => if c.toNat = 45 then -(dval r : Int) else (dval (c :: r) : Int)
theorem numOf_itoa (n : Int) : numOf (Lib.itoa n) = n := by
 unfold Lib.itoa;by_cases hn : n < 0
 · rw [if_pos hn];unfold numOf;simp only;rw [if_pos (by decide), dec_val]; omega
 · rw [if_neg hn];have hd := dec_dig n.toNat;have hv := dec_val n.toNat;have hne := dec_ne n.toNat;cases hl : Lib.decDigits n.toNat with
   | nil => exact absurd hl hne
   | cons c r =>
    rw [hl] at hd hv;have hc : 48 ≤ c.toNat ∧ c.toNat ≤ 57 := by have := hd c (List.mem_cons_self ..); unfold isDig at this; simpa using this
    unfold numOf;simp only;rw [if_neg (by omega), hv]; omega
theorem itoa_inj (a b : Int) (h : Lib.itoa a = Lib.itoa b) : a = b := by rw [← numOf_itoa a, h, numOf_itoa]

theorem itoa_no32 (n : Int) : ∀ c ∈ Lib.itoa n, c ≠ 32 := by
 intro c hc;have hd : ∀ u : Nat, ∀ c ∈ Lib.decDigits u, c ≠ 32 := by
  intro u c hc e;subst e;have := dec_dig u _ hc
  revert this; decide
 unfold Lib.itoa at hc;split at hc
 · rcases List.mem_cons.1 hc with h | h
   · subst h; decide
   · exact hd _ c h
 · exact hd _ c hc
theorem cut32 (a b r q : List UInt8) (ha : ∀ c ∈ a, c ≠ 32) (hb : ∀ c ∈ b, c ≠ 32) (h : a ++ 32 :: r = b ++ 32 :: q) : a = b ∧ r = q := by
 induction a generalizing b with
 | nil =>
  cases b with
  | nil => simp at h; exact ⟨rfl, h⟩
  | cons x b => simp at h; exact absurd h.1.symm (hb x (List.mem_cons_self ..))
 | cons x a ih =>
  cases b with
  | nil => simp at h; exact absurd h.1 (ha x (List.mem_cons_self ..))
  | cons y b =>
   simp at h;obtain ⟨e, h2⟩ := h;obtain ⟨e2, e3⟩ := ih b (fun c hc => ha c (List.mem_cons_of_mem _ hc)) (fun c hc => hb c (List.mem_cons_of_mem _ hc)) h2;exact ⟨by rw [e, e2], e3⟩
theorem keyL_inj : ∀ (a b : List Int), keyL a = keyL b → a = b := by
 intro a
 induction a with
 | nil =>
  intro b h;cases b with
  | nil => rfl
  | cons y b => simp [keyL] at h
 | cons x a ih =>
  intro b h;cases b with
  | nil => simp [keyL] at h
  | cons y b =>
   have h' : Lib.itoa x ++ 32 :: keyL a = Lib.itoa y ++ 32 :: keyL b := by simpa [keyL] using h
   obtain ⟨e1, e2⟩ := cut32 _ _ _ _ (itoa_no32 x) (itoa_no32 y) h';rw [itoa_inj x y e1, ih b e2]
def okZ (z : List Int) : Prop := i64s z ∧ z.length ≤ 1000000
def klit (z : List Int) : Lit := .string (keyL z)
theorem klit_inj {a b : List Int} (h : klit a = klit b) : a = b := by unfold klit at h; injection h with h; exact keyL_inj a b h
theorem klit_key {z : List Int} (h : okZ z) : keyOf Tryz.prog 9 (.string ⟨(keyL z).toArray⟩) = some (klit z) := by
 have := keyL_len z h.1;exact WideMaps.keyOf_string_mk Tryz.underlying9 (by have h2 := h.2; unfold maxLen; simp [ByteArray.size]; omega)
theorem klit_is (z : List Int) : WideAt.IsKeyLit (klit z) := trivial
end
section
open Go.RowKit

theorem own_kind {w : World} {b k g : Nat} {e : TypeId} {v : Value} {n : Nat} {xs : List Value} (h : w.ownsRow b e k v n xs) (hg : v.ownBlock = some g) : ∃ cur, w.heap[g]? = some (.cells cur e (0, 0)) := by
 rcases h.2 with ⟨rfl, _⟩ | ⟨g', cap, cur, rfl, _, hgg, _⟩
 · simp [Value.ownBlock] at hg
 · simp [Value.ownBlock] at hg;subst hg; exact ⟨cur, hgg⟩
theorem own_apart {w : World} {b b' k k' : Nat} {e e' : TypeId} {v v' : Value} {n n' : Nat} {xs xs' : List Value} (h : w.ownsRow b e k v n xs) (h' : w.ownsRow b' e' k' v' n' xs') (hne : e ≠ e') : v.ownBlock = none ∨ v.ownBlock ≠ v'.ownBlock := by
 cases hv : v.ownBlock with
 | none => exact .inl rfl
 | some g =>
  refine .inr fun e1 => ?_
  obtain ⟨c, h1⟩ := own_kind h hv;obtain ⟨c', h2⟩ := own_kind h' e1.symm;rw [h1] at h2; cases h2; exact hne rfl
theorem own_other {w : World} {b k g : Nat} {e T : TypeId} {v : Value} {n : Nat} {xs : List Value} {cs : Array Value} {fr : Nat × Nat} (h : w.ownsRow b e k v n xs) (hg : w.heap[g]? = some (.cells cs T fr)) (hne : e ≠ T) : v.ownBlock = none ∨ v.ownBlock ≠ some g := by
 cases hv : v.ownBlock with
 | none => exact .inl rfl
 | some g' =>
  refine .inr fun e1 => ?_
  cases e1;obtain ⟨c, h1⟩ := own_kind h hv;rw [h1] at hg; cases hg; exact hne rfl
theorem NS.kept {w0 wr w' : World} {v : Value} {L : List Int} {row : Option Nat} (h : NS w0 wr v L) (hg : wr.grownBy w' row) (hne : v.ownBlock = none ∨ v.ownBlock ≠ row) (hr : ∀ k, row = some k → w0.heap.size ≤ k) : NS w0 w' v L :=
 ⟨h.1.kept hg hne, h.2.grown hg h.2.size hr⟩
structure Nv where
 d : Nd
 vp : Value
 vm : Value
section
variable {w0 wr w' : World} {tb : Nat} {vN vS : Value} {NL : List Nv} {SL : List Value} {T : TS}
theorem row_slice {w : World} {b k : Nat} {e : TypeId} {v : Value} {n : Nat} {xs : List Value} (h : w.ownsRow b e k v n xs) : ∃ A cap, v = .slice A n cap ∧ (0 < n → ∃ g, A = some ⟨g, 0, none⟩ ∧ b ≤ g ∧ g < w.heap.size) := by
 rcases h.2 with ⟨rfl, h0⟩ | ⟨g, cap, cur, rfl, h1, h2, _⟩
 · exact ⟨none, 0, by rw [h0], fun h => by omega⟩
 · exact ⟨_, cap, rfl, fun _ => ⟨g, rfl, h1, (Array.getElem?_eq_some_iff.1 h2).1⟩⟩
theorem heap_set2 {w : World} {b o : Nat} {cs : Array Value} {t : TypeId} {v : Value} (h : w.heap[b]? = some (.cells cs t (0, 0))) : (w.setCell ⟨b, o, none⟩ v).heap[b]? = some (.cells (cs.setIfInBounds o v) t (0, 0)) := by
 have hb := (Array.getElem?_eq_some_iff.1 h).1;unfold World.setCell;simp [Array.getElem?_modify, h]
theorem news_blk {w : World} {B : Nat} {cs : Array Value} {t : TypeId} {fr : Nat × Nat} (hb : w.heap[B]? = some (.cells cs t fr)) : ∀ j u, cs.toList[j]? = some u → w.cell? ((⟨B, 0, none⟩ : Addr).add j) = some u := by
 intro j u hu;have ha : (⟨B, 0, none⟩ : Addr).add j = ⟨B, 0 + j, none⟩ := by unfold Addr.add; split <;> simp_all
 rw [ha];simp [World.cell?, hb];simpa using hu
end
section
variable {w0 wr w' : World} {ba bt bm mb most tb : Nat} {vN vS : Value} {NL : List Nv} {SL : List Value} {T : TS}
theorem row_block {w : World} {b k : Nat} {e : TypeId} {v : Value} {n : Nat} {xs : List Value} (h : w.ownsRow b e k v n xs) {g : Nat} {cs : Array Value} {t : TypeId} (hg : w.heap[g]? = some (.cells cs t (0, 0))) (hne : e ≠ t) : some g ≠ v.ownBlock := by
 rcases own_other h hg hne with e1 | e1
 · rw [e1]; simp
 · exact fun e2 => e1 e2.symm
end
end
section
open Go.RowKit

theorem mkM {N : Nt} {M : List Int} (h : mkB N M = true) : isM M := by
 intro p;rcases Nat.lt_or_ge p M.length with hp | hp
 · have := mk_nums h _ (List.getElem_mem hp);simpa [hp] using this
 · rw [getD_out hp]; omega
theorem pls_ok {n : Int} {l : List Int} {m : Nat} (hm : (m : Int) = n) (h : plB n l = true) : plsOk l m := by
 refine ⟨fun p hp => by have := plB_in n l h p hp; omega, ?_⟩;show List.Pairwise (· ≠ ·) l;rw [List.pairwise_iff_getElem];intro i j hi hj hij e;have key : ∀ a b (hb : b < l.length) (hab : a < b), l[a]'(by omega) < l[b] := by
  intro a b
  induction b with
  | zero => intro _ h; omega
  | succ b ih =>
   intro hb hab;have h1 := plB_lt n l b hb h;rcases Nat.lt_or_ge a b with h2 | h2
   · have := ih (by omega) h2; omega
   · obtain rfl : a = b := by omega
     exact h1
 have := key i j hj hij;omega
theorem pls_len {l : List Int} {m : Nat} (h : plsOk l m) : l.length ≤ m := by
 obtain ⟨h1, h2⟩ := h;have h3 : (l.map Int.toNat).Nodup := by
  show List.Pairwise (· ≠ ·) _;rw [List.pairwise_map];exact List.Pairwise.imp_of_mem (fun {a b} ha hb hne e => hne (by have := h1 a ha; have := h1 b hb; omega)) h2
 have h4 : (l.map Int.toNat) ⊆ List.range m := by
  intro x hx;obtain ⟨a, ha, rfl⟩ := List.mem_map.1 hx;have := h1 a ha;exact List.mem_range.2 (by omega)
 have := h3.length_le_of_subset h4;simpa using this
theorem netOk_of {N : Nt} {m : Nat} (h : ntB N = true) (hm : (m : Int) = N.pl) : netOk N m := by
 intro k t hk;unfold ntB at h;rw [Bool.and_eq_true, Bool.and_eq_true, List.all_eq_true] at h;have := h.2.1 t (List.mem_of_getElem? hk);unfold trB at this;rw [Bool.and_eq_true, Bool.and_eq_true] at this;exact ⟨pls_ok hm this.2.1, pls_ok hm this.2.2⟩
end
end Go.Proofs.YtkhmngljpfibcaaGreatDoor
