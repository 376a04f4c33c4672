/- Texts of markings are different for different markings; a map from them to numbers. The coverability tree in memory. cover.grow: what a call returns. Spaces: lists of lists and moves of one's own, in memory; the space of a tree, plain. cover.begin and cover.Graph: what a call returns. fire of reference 24: what a call returns. Bounded nets, certificates, runs: plain. Find and raise of reference 24: what a call returns. cover.Bounded: what a call returns. Fault, HasOmega, SameSpace of reference 24: what a call returns. -/
import Derived.Test.YtpnhcimmlnjfaaaGreatDoorDf
import Derived.Test.YtpnhcimmlnjfaaaGreatDoorDb
import Derived.Test.YtpnhcimmlnjfaaaGreatDoorCp
import Derived.Test.YtpnhcimmlnjfaaaGreatDoorHa
import Derived.Maps.OwnSet
import Derived.StringKeys
import Derived.Sort.OwnSortedInts
namespace Go.Proofs.YtpnhcimmlnjfaaaGreatDoor
open Go.Lib (hid)
section
open Go.RowKit Go.WideShapes

/-- the number that digits spell -/
def dval (l : List UInt8) : Nat := l.foldl (fun n c => 10 * n + (c.toNat - 48)) 0
theorem dval_snoc (l : List UInt8) (c : UInt8) : dval (l ++ [c]) = 10 * dval l + (c.toNat - 48) := by unfold dval; simp
theorem dig_byte (k : Nat) (h : k < 10) : (UInt8.ofNat (48 + k)).toNat = 48 + k := by
 simp [UInt8.toNat_ofNat']; omega
theorem dec_induct {P : Nat → List UInt8 → Prop} (h0 : ∀ u, u < 10 → P u [UInt8.ofNat (48 + u)]) (hs : ∀ u, 10 ≤ u → P (u / 10) (Lib.decDigits (u / 10)) → P u (Lib.decDigits (u / 10) ++ [UInt8.ofNat (48 + u % 10)])) : ∀ u, P u (Lib.decDigits u) := by
 intro u
 induction u using Nat.strongRecOn with
 | _ u ih =>
  by_cases h : u < 10
  · rw [Lib.decDigits_one h]; exact h0 u h
  · rw [Lib.decDigits, dif_neg h]; exact hs u (by omega) (ih (u / 10) (by omega))
theorem dec_dig (u : Nat) : ∀ c ∈ Lib.decDigits u, isDig c = true := by
 refine dec_induct (P := fun _ l => ∀ c ∈ l, isDig c = true) ?_ ?_ u
 · intro u hu c hc
   have : c = UInt8.ofNat (48 + u) := by simpa using hc
   subst this; unfold isDig; rw [dig_byte u hu]; simp; omega
 · intro u hu ih c hc
   rcases List.mem_append.1 hc with h | h
   · exact ih c h
   · have : c = UInt8.ofNat (48 + u % 10) := by simpa using h
     subst this; unfold isDig; rw [dig_byte _ (by omega)]; simp; omega
theorem dec_val (u : Nat) : dval (Lib.decDigits u) = u := by
 refine dec_induct (P := fun u l => dval l = u) ?_ ?_ u
 · intro u hu; unfold dval; simp only [List.foldl]; rw [dig_byte u hu]; omega
 · intro u hu ih; rw [dval_snoc, ih, dig_byte _ (by omega)]; omega
theorem dec_ne (u : Nat) : Lib.decDigits u ≠ [] := by
 refine dec_induct (P := fun _ l => l ≠ []) ?_ ?_ u
 · intro u hu; simp
 · intro u hu ih; simp
/-- the number that a text with digits spells -/
def numOf (s : List UInt8) : Int := match s with | [] => 0 | c :: r => if c.toNat = 45 then -(dval r : Int) else (dval (c :: r) : Int)
theorem numOf_itoa (n : Int) : numOf (Lib.itoa n) = n := by
 unfold Lib.itoa
 by_cases hn : n < 0
 · rw [if_pos hn]
   unfold numOf
   simp only
   rw [if_pos (by decide), dec_val]; omega
 · rw [if_neg hn]
   have hd := dec_dig n.toNat
   have hv := dec_val n.toNat
   have hne := dec_ne n.toNat
   cases hl : Lib.decDigits n.toNat with
   | nil => exact absurd hl hne
   | cons c r =>
    rw [hl] at hd hv
    have hc : 48 ≤ c.toNat ∧ c.toNat ≤ 57 := by have := hd c (List.mem_cons_self ..); unfold isDig at this; simpa using this
    unfold numOf
    simp only
    rw [if_neg (by omega), hv]; omega
theorem itoa_inj (a b : Int) (h : Lib.itoa a = Lib.itoa b) : a = b := by rw [← numOf_itoa a, h, numOf_itoa]

theorem itoa_no32 (n : Int) : ∀ c ∈ Lib.itoa n, c ≠ 32 := by
 intro c hc
 have hd : ∀ u : Nat, ∀ c ∈ Lib.decDigits u, c ≠ 32 := by
  intro u c hc e
  subst e
  have := dec_dig u _ hc
  revert this; decide
 unfold Lib.itoa at hc
 split at hc
 · rcases List.mem_cons.1 hc with h | h
   · subst h; decide
   · exact hd _ c h
 · exact hd _ c hc
theorem cut32 (a b r q : List UInt8) (ha : ∀ c ∈ a, c ≠ 32) (hb : ∀ c ∈ b, c ≠ 32) (h : a ++ 32 :: r = b ++ 32 :: q) : a = b ∧ r = q := by
 induction a generalizing b with
 | nil =>
  cases b with
  | nil => simp at h; exact ⟨rfl, h⟩
  | cons x b => simp at h; exact absurd h.1.symm (hb x (List.mem_cons_self ..))
 | cons x a ih =>
  cases b with
  | nil => simp at h; exact absurd h.1 (ha x (List.mem_cons_self ..))
  | cons y b =>
   simp at h
   obtain ⟨e, h2⟩ := h
   obtain ⟨e2, e3⟩ := ih b (fun c hc => ha c (List.mem_cons_of_mem _ hc)) (fun c hc => hb c (List.mem_cons_of_mem _ hc)) h2
   exact ⟨by rw [e, e2], e3⟩
theorem keyL_inj : ∀ (a b : List Int), keyL a = keyL b → a = b := by
 intro a
 induction a with
 | nil =>
  intro b h
  cases b with
  | nil => rfl
  | cons y b => simp [keyL] at h
 | cons x a ih =>
  intro b h
  cases b with
  | nil => simp [keyL] at h
  | cons y b =>
   have h' : Lib.itoa x ++ 32 :: keyL a = Lib.itoa y ++ 32 :: keyL b := by simpa [keyL] using h
   obtain ⟨e1, e2⟩ := cut32 _ _ _ _ (itoa_no32 x) (itoa_no32 y) h'
   rw [itoa_inj x y e1, ih b e2]
/-- a marking whose text can be made -/
def okZ (z : List Int) : Prop := i64s z ∧ z.length ≤ 1000000
def klit (z : List Int) : Lit := .string (keyL z)
theorem klit_inj {a b : List Int} (h : klit a = klit b) : a = b := by unfold klit at h; injection h with h; exact keyL_inj a b h
theorem klit_key {z : List Int} (h : okZ z) : keyOf Tryz.prog 9 (.string ⟨(keyL z).toArray⟩) = some (klit z) := by
 have := keyL_len z h.1
 exact WideMaps.keyOf_string_mk Tryz.underlying9 (by have h2 := h.2; unfold maxLen; simp [ByteArray.size]; omega)
theorem klit_is (z : List Int) : WideAt.IsKeyLit (klit z) := trivial
end
section
open Go.RowKit

/-- a row's block is of the row's type -/
theorem own_kind {w : World} {b k g : Nat} {e : TypeId} {v : Value} {n : Nat} {xs : List Value} (h : w.ownsRow b e k v n xs) (hg : v.ownBlock = some g) : ∃ cur, w.heap[g]? = some (.cells cur e (0, 0)) := by
 rcases h.2 with ⟨rfl, _⟩ | ⟨g', cap, cur, rfl, _, hgg, _⟩
 · simp [Value.ownBlock] at hg
 · simp [Value.ownBlock] at hg
   subst hg; exact ⟨cur, hgg⟩
theorem own_other {w : World} {b k g : Nat} {e T : TypeId} {v : Value} {n : Nat} {xs : List Value} {cs : Array Value} {fr : Nat × Nat} (h : w.ownsRow b e k v n xs) (hg : w.heap[g]? = some (.cells cs T fr)) (hne : e ≠ T) : v.ownBlock = none ∨ v.ownBlock ≠ some g := by
 cases hv : v.ownBlock with
 | none => exact .inl rfl
 | some g' =>
  refine .inr fun e1 => ?_
  cases e1
  obtain ⟨c, h1⟩ := own_kind h hv
  rw [h1] at hg; cases hg; exact hne rfl
/-- the rows as slices -/
theorem row_slice {w : World} {b k : Nat} {e : TypeId} {v : Value} {n : Nat} {xs : List Value} (h : w.ownsRow b e k v n xs) : ∃ A cap, v = .slice A n cap ∧ (0 < n → ∃ g, A = some ⟨g, 0, none⟩ ∧ b ≤ g ∧ g < w.heap.size) := by
 rcases h.2 with ⟨rfl, h0⟩ | ⟨g, cap, cur, rfl, h1, h2, _⟩
 · exact ⟨none, 0, by rw [h0], fun h => by omega⟩
 · exact ⟨_, cap, rfl, fun _ => ⟨g, rfl, h1, (Array.getElem?_eq_some_iff.1 h2).1⟩⟩
theorem heap_set2 {w : World} {b o : Nat} {cs : Array Value} {t : TypeId} {v : Value} (h : w.heap[b]? = some (.cells cs t (0, 0))) : (w.setCell ⟨b, o, none⟩ v).heap[b]? = some (.cells (cs.setIfInBounds o v) t (0, 0)) := by
 have hb := (Array.getElem?_eq_some_iff.1 h).1
 unfold World.setCell
 simp [Array.getElem?_modify, h]
theorem news_blk {w : World} {B : Nat} {cs : Array Value} {t : TypeId} {fr : Nat × Nat} (hb : w.heap[B]? = some (.cells cs t fr)) : ∀ j u, cs.toList[j]? = some u → w.cell? ((⟨B, 0, none⟩ : Addr).add j) = some u := by
 intro j u hu
 have ha : (⟨B, 0, none⟩ : Addr).add j = ⟨B, 0 + j, none⟩ := by unfold Addr.add; split <;> simp_all
 rw [ha]
 simp [World.cell?, hb]
 simpa using hu
theorem row_block {w : World} {b k : Nat} {e : TypeId} {v : Value} {n : Nat} {xs : List Value} (h : w.ownsRow b e k v n xs) {g : Nat} {cs : Array Value} {t : TypeId} (hg : w.heap[g]? = some (.cells cs t (0, 0))) (hne : e ≠ t) : some g ≠ v.ownBlock := by
 rcases own_other h hg hne with e1 | e1
 · rw [e1]; simp
 · exact fun e2 => e1 e2.symm
end
section
open Go.RowKit

theorem mkM {N : Nt} {M : List Int} (h : mkB N M = true) : isM M := by
 intro p
 rcases Nat.lt_or_ge p M.length with hp | hp
 · have := mk_nums h _ (List.getElem_mem hp)
   simpa [hp] using this
 · rw [getD_out hp]; omega
theorem pls_ok {n : Int} {l : List Int} {m : Nat} (hm : (m : Int) = n) (h : plB n l = true) : plsOk l m := by
 refine ⟨fun p hp => by have := plB_in n l h p hp; omega, ?_⟩
 show List.Pairwise (· ≠ ·) l
 rw [List.pairwise_iff_getElem]
 intro i j hi hj hij e
 have key : ∀ a b (hb : b < l.length) (hab : a < b), l[a]'(by omega) < l[b] := by
  intro a b
  induction b with
  | zero => intro _ h; omega
  | succ b ih =>
   intro hb hab
   have h1 := plB_lt n l b hb h
   rcases Nat.lt_or_ge a b with h2 | h2
   · have := ih (by omega) h2; omega
   · obtain rfl : a = b := by omega
     exact h1
 have := key i j hj hij
 omega
theorem pls_len {l : List Int} {m : Nat} (h : plsOk l m) : l.length ≤ m := by
 obtain ⟨h1, h2⟩ := h
 have h3 : (l.map Int.toNat).Nodup := by
  show List.Pairwise (· ≠ ·) _
  rw [List.pairwise_map]
  exact List.Pairwise.imp_of_mem (fun {a b} ha hb hne e => hne (by have := h1 a ha; have := h1 b hb; omega)) h2
 have h4 : (l.map Int.toNat) ⊆ List.range m := by
  intro x hx
  obtain ⟨a, ha, rfl⟩ := List.mem_map.1 hx
  have := h1 a ha
  exact List.mem_range.2 (by omega)
 have := h3.length_le_of_subset h4
 simpa using this
theorem netOk_of {N : Nt} {m : Nat} (h : ntB N = true) (hm : (m : Int) = N.pl) : netOk N m := by
 intro k t hk
 unfold ntB at h
 rw [Bool.and_eq_true, Bool.and_eq_true, List.all_eq_true] at h
 have := h.2.1 t (List.mem_of_getElem? hk)
 unfold trB at this
 rw [Bool.and_eq_true, Bool.and_eq_true] at this
 exact ⟨pls_ok hm this.2.1, pls_ok hm this.2.2⟩
end
section
open Go.RowKit

section
variable {w0 wr w' : World} {v : Value} {LL : List (List Int)}
end
/-- a move -/
structure Mv where
 f : Int
 t : Int
 s : Int
def mvC (x : Mv) : List Value := [.int .i64 x.f, .int .i64 x.t, .int .i64 x.s]
section
variable {w0 wr w' : World} {v : Value} {MV : List Mv}
end
end
section
open Go.RowKit

theorem add0 (ad : Addr) : ad.add 0 = ad := by simp [Addr.add]
end
section
open Go.RowKit

/-- a place gets too many tokens -/
def overP (M : List Int) (p : Int) : Bool := decide (100 < inc1 (M.getD p.toNat 0))
theorem big_over {M l : List Int} (hl : plsOk l M.length) (hM : ∀ p : Nat, M.getD p 0 ≤ 100) : bigM (incs M l) = l.any (overP M) := by
 rw [Bool.eq_iff_iff]
 unfold bigM
 rw [List.any_eq_true, List.any_eq_true]
 constructor
 · rintro ⟨x, hx, h⟩
   obtain ⟨p, hp, rfl⟩ := List.getElem_of_mem hx
   have hg := incs_get M l hl p
   have e : (incs M l).getD p 0 = (incs M l)[p] := by simp [hp]
   rw [e] at hg
   by_cases hm : (p : Int) ∈ l
   · rw [if_pos hm] at hg
     refine ⟨(p : Int), hm, ?_⟩
     unfold overP
     rw [hg] at h
     simpa using h
   · rw [if_neg hm] at hg
     have := hM p
     have h2 := of_decide_eq_true h
     omega
 · rintro ⟨p, hp, h⟩
   have hr := hl.1 p hp
   obtain ⟨q, rfl⟩ := Int.eq_ofNat_of_zero_le hr.1
   have hq : q < (incs M l).length := by rw [incs_len]; omega
   refine ⟨(incs M l)[q], List.getElem_mem hq, ?_⟩
   have hg := incs_get M l hl q
   rw [if_pos hp] at hg
   have e : (incs M l).getD q 0 = (incs M l)[q] := by simp [hq]
   rw [← e, hg]
   simpa [overP] using h
theorem pls_take {l : List Int} {n : Nat} (h : plsOk l n) (k : Nat) : plsOk (l.take k) n :=
 ⟨fun p hp => h.1 p (List.mem_of_mem_take hp), List.Sublist.nodup (List.take_sublist k l) h.2⟩
/-- the value at the place that was set last -/
theorem incs_at {M l : List Int} {k p : Nat} (hl : plsOk l M.length) (hk : k < l.length) (hp : l[k] = (p : Int)) (hpm : p < M.length) :
 ∃ h : p < (incs M (l.take k)).length, (incs M (l.take k))[p] = M.getD p 0 := by
 refine ⟨by rw [incs_len]; exact hpm, ?_⟩
 have hg := incs_get M (l.take k) (pls_take hl k) p
 have hn : (p : Int) ∉ l.take k := by
  intro hm
  obtain ⟨j, hj, e⟩ := List.getElem_of_mem hm
  rw [List.getElem_take] at e
  rw [List.length_take] at hj
  have h2 := hl.2
  have h3 : List.Pairwise (· ≠ ·) l := h2
  rw [List.pairwise_iff_getElem] at h3
  exact h3 j k (by omega) hk (by omega) (by rw [e, hp])
 rw [if_neg hn] at hg
 have e : (incs M (l.take k)).getD p 0 = (incs M (l.take k))[p]'(by rw [incs_len]; exact hpm) := by simp [incs_len, hpm]
 rw [← e, hg]
/-- what fire of the reference returns -/
def RFi (L : List Int) (w : World) (e : Ending) (w' : World) : Prop := if bigM L then e = .returned (.tuple #[.slice none 0 0, .bool false]) ∧ Below w.heap.size w w' else ∃ v, e = .returned (.tuple #[v, .bool true]) ∧ NS w w' v L
theorem RFi.no {L : List Int} {w w' : World} {e : Ending} (h : bigM L = true) (he : e = .returned (.tuple #[.slice none 0 0, .bool false])) (hb : Below w.heap.size w w') : RFi L w e w' := by unfold RFi; rw [if_pos h]; exact ⟨he, hb⟩
theorem RFi.yes {L : List Int} {w w' : World} {e : Ending} {v : Value} (h : bigM L = false) (he : e = .returned (.tuple #[v, .bool true])) (hs : NS w w' v L) : RFi L w e w' := by unfold RFi; rw [if_neg (by rw [h]; decide)]; exact ⟨v, he, hs⟩
theorem set_same {w wr : World} {g n cap p : Nat} {D : List Int} {x : Int} (_h : NS w wr (.slice (some ⟨g, 0, none⟩) n cap) D) (hc : wr.cell? ⟨g, p, none⟩ = some (.int .i64 x)) (hx : x = -1) (hp : p < D.length) : D.set p (-1) = D := by
 have h2 := (_h.cells p hp).1
 rw [hc] at h2
 injection h2 with h2
 injection h2 with _ h2
 apply List.ext_getElem (by simp)
 intro j h3 h4
 rw [List.getElem_set]
 split
 · subst_vars; exact h2
 · rfl
theorem decs_le {M : List Int} (l : List Int) (h : plsOk l M.length) (hM : ∀ p : Nat, M.getD p 0 ≤ 100) : ∀ p : Nat, (decs M l).getD p 0 ≤ 100 := by
 intro p
 rw [decs_get M l h]
 have := hM p
 have := dec1_bnd (M.getD p 0)
 split <;> omega
end
section
/-- firing a transition: the marking and the error number -/
def fireV (N : Nt) (m : List Int) (t : Int) : List Int × Int :=
 if t < 0 then ([], 2) else match N.tr[t.toNat]? with
  | none => ([], 2)
  | some x => if canT x m then (if bigM (fireT x m) then ([], 5) else (fireT x m, 0)) else ([], 12)
/-- firing the transitions of a list: the marking, the number of the one that fails, the error number -/
def runV (N : Nt) : List Int → Nat → List Int → List Int × Nat × Int
 | m, k, [] => (m, k, 0)
 | m, k, t :: l => if (fireV N m t).2 = 0 then runV N (fireV N m t).1 (k + 1) l else ([], k, (fireV N m t).2)
end
section
open Go.RowKit

/-- the index of a marking in a list, -1 if it is not there -/
def findR (LL : List (List Int)) (m : List Int) : Int := if (LL.findIdx fun s => decide (s = m)) = LL.length then -1 else ((LL.findIdx fun s => decide (s = m) : Nat) : Int)
theorem find_no {LL : List (List Int)} {m : List Int} (h : ∀ s ∈ LL, s ≠ m) : findR LL m = -1 := by
 unfold findR
 rw [if_pos]
 apply List.findIdx_eq_length_of_false
 intro x hx
 simp only [decide_eq_false_iff_not]
 exact h x hx
theorem find_at {LL : List (List Int)} {m : List Int} {k : Nat} (h : k < LL.length) (hm : LL[k] = m) (hno : ∀ s ∈ LL.take k, s ≠ m) : findR LL m = (k : Int) := by
 have e : (LL.findIdx fun s => decide (s = m)) = k := by
  rw [List.findIdx_eq h]
  refine ⟨by simpa using hm, fun j hj => ?_⟩
  simp only [decide_eq_false_iff_not]
  exact hno _ (by rw [List.mem_take_iff_getElem]; exact ⟨j, by omega, rfl⟩)
 unfold findR
 rw [e, if_neg (by omega)]
theorem find_neg {LL : List (List Int)} {m : List Int} : findR LL m < 0 ↔ m ∉ LL := by
 constructor
 · intro h hm
   unfold findR at h
   have := List.findIdx_lt_length_of_exists (xs := LL) (p := fun s => decide (s = m)) ⟨m, hm, by simp⟩
   rw [if_neg (by omega)] at h; omega
 · intro h
   rw [find_no (fun s hs e => h (by subst e; exact hs))]; omega
set_option maxHeartbeats 3200000 in
set_option maxRecDepth 100000 in
theorem find_any (A : Option Addr) (n c : Nat) (LL : List (List Int)) (Am : Option Addr) (m cm : Nat) (M : List Int) (w : World) (h : LIn w A LL) (hn : LL.length = n) (hn2 : n ≤ 9223372036854775806) (hM : ZIn w Am M) (hm : M.length = m) :
 Calls Tryz.prog 112 #[.slice A n c, .slice Am m cm] w fun e w' => e = .returned (.int .i64 (findR LL M)) ∧ Below w.heap.size w w' := by
 have HL := hid h
 have HM := hid hM
 have HN := hid hn
 have HMl := hid hm
 clear h hM hn hm
 go_enter Tryz.func112, Tryz.ntmps112
 go_wp2_with fail
 go_loopg [5] (n) (fun g iv wr => ∃ k : Nat, k + g = n ∧ iv = .int .i64 k ∧ (∀ s ∈ LL.take k, s ≠ M) ∧ Below w.heap.size w wr)
 case atStart => exact ⟨0, by omega, rfl, by simp, Below.refl _ _⟩
 case round =>
  obtain ⟨k, hk, rfl, hp, hB⟩ := hrel
  have HB := hid hB
  have HK := hid hk
  have HP := hid hp
  have HLr := hid (HL.out.below hB)
  have HMr := hid (HM.out.below hB)
  have hle : k ≤ n := by omega
  clear hk hp hB
  by_cases hlt : k < n
  · have hlt' : k < LL.length := by rw [HN.out]; exact hlt
    obtain ⟨ad, rfl, hpa, u, q0, Ax, nx, cx, rfl, zx, hx1, hx2, hx3⟩ := HLr.out k hlt'
    have HAt := hid (fun e => find_at hlt' e HP.out)
    have HTk := hid (List.take_succ_eq_append_getElem hlt')
    generalize LL[k] = X at *
    have HS := hid (same_any Ax nx cx Am m cm X M wr zx hx1 HMr.out HMl.out (by omega))
    clear hlt' zx hx1
    by_cases he : X = M
    · have HV := hid (HAt.out he)
      rw [decide_eq_true he] at HS
      clear he HAt
      go_wp2_with fail
      ((with_reducible refine HS.out.mono ?_); rintro e w1 ⟨rfl, hb1⟩)
      have HB1 := hid (below_then HB.out hb1)
      clear hb1
      go_wp2_with fail
      go_ret
      exact ⟨ret_int HV.out.symm, HB1.out⟩
    · have HV := hid (show ∀ s ∈ LL.take (k + 1), s ≠ M by
       rw [HTk.out]; intro s hs
       rcases List.mem_append.1 hs with h1 | h1
       · exact HP.out s h1
       · have : s = X := by simpa using h1
         subst this; exact he)
      rw [decide_eq_false he] at HS
      clear he HAt
      go_wp2_with fail
      ((with_reducible refine HS.out.mono ?_); rintro e w1 ⟨rfl, hb1⟩)
      have HB1 := hid (below_then HB.out hb1)
      clear hb1
      go_wp2_with fail
      go_roundg (gk - 1)
      case measure => have := HK.out; omega
      case rel => exact ⟨k + 1, by have := HK.out; omega, by go_num, HV.out, HB1.out⟩
  · have HV := hid (show findR LL M = -1 from find_no (by have := HP.out; rwa [List.take_of_length_le (by rw [HN.out]; omega)] at this))
    go_wp2_with fail
    go_ret
    exact ⟨ret_int HV.out.symm, HB.out⟩
end
section
open Go.RowKit

/-- a block that holds a certificate -/
def CtB (w : World) (b : Nat) (vs : Array Value) : Prop := w.heap[b]? = some (.cells vs 29 (0, 0))
section
variable {w w' : World} {b : Nat} {a0 a1 a2 a3 a4 a5 a6 a7 : Value} {vs : Array Value}
theorem CtB.lt (h : CtB w b vs) : b < w.heap.size := (Array.getElem?_eq_some_iff.1 h).1
theorem CtB.below (h : CtB w b vs) (hb : Below w.heap.size w w') : CtB w' b vs := by
 unfold CtB; rw [hb.block b h.lt]; exact h
theorem CtB.cells (h : CtB w b #[a0, a1, a2, a3, a4, a5, a6, a7]) : w.cell? ⟨b, 0, none⟩ = some a0 ∧ w.cell? ⟨b, 1, none⟩ = some a1 ∧ w.cell? ⟨b, 2, none⟩ = some a2 ∧ w.cell? ⟨b, 3, none⟩ = some a3 ∧ w.cell? ⟨b, 4, none⟩ = some a4 ∧ w.cell? ⟨b, 5, none⟩ = some a5 ∧ w.cell? ⟨b, 6, none⟩ = some a6 ∧ w.cell? ⟨b, 7, none⟩ = some a7 := by
 unfold CtB at h
 simp [World.cell?, h]
end
end
section
open Go.RowKit

instance : DecidableEq Mv := fun a b => by
 cases a; cases b
 simp only [Mv.mk.injEq]
 infer_instance
end
end Go.Proofs.YtpnhcimmlnjfaaaGreatDoor
