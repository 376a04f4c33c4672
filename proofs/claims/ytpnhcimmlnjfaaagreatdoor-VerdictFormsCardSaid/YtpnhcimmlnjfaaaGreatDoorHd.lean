/- The coverability tree in memory. cover.grow: what a call returns. Spaces: lists of lists and moves of one's own, in memory; the space of a tree, plain. cover.begin and cover.Graph: what a call returns. fire of reference 24: what a call returns. Bounded nets, certificates, runs: plain. cover.Bounded: what a call returns. -/
import Derived.Test.YtpnhcimmlnjfaaaGreatDoorDg
import Derived.Test.YtpnhcimmlnjfaaaGreatDoorDb
import Derived.Test.YtpnhcimmlnjfaaaGreatDoorCp
import Derived.Test.YtpnhcimmlnjfaaaGreatDoorHa
import Derived.Sort.OwnSortedInts
namespace Go.Proofs.YtpnhcimmlnjfaaaGreatDoor
section
open Go.RowKit

/-- a row's block is of the row's type -/
theorem own_kind {w : World} {b k g : Nat} {e : TypeId} {v : Value} {n : Nat} {xs : List Value} (h : w.ownsRow b e k v n xs) (hg : v.ownBlock = some g) : ∃ cur, w.heap[g]? = some (.cells cur e (0, 0)) := by
 rcases h.2 with ⟨rfl, _⟩ | ⟨g', cap, cur, rfl, _, hgg, _⟩
 · simp [Value.ownBlock] at hg
 · simp [Value.ownBlock] at hg
   subst hg; exact ⟨cur, hgg⟩
theorem own_other {w : World} {b k g : Nat} {e T : TypeId} {v : Value} {n : Nat} {xs : List Value} {cs : Array Value} {fr : Nat × Nat} (h : w.ownsRow b e k v n xs) (hg : w.heap[g]? = some (.cells cs T fr)) (hne : e ≠ T) : v.ownBlock = none ∨ v.ownBlock ≠ some g := by
 cases hv : v.ownBlock with
 | none => exact .inl rfl
 | some g' =>
  refine .inr fun e1 => ?_
  cases e1
  obtain ⟨c, h1⟩ := own_kind h hv
  rw [h1] at hg; cases hg; exact hne rfl
/-- the rows as slices -/
theorem row_slice {w : World} {b k : Nat} {e : TypeId} {v : Value} {n : Nat} {xs : List Value} (h : w.ownsRow b e k v n xs) : ∃ A cap, v = .slice A n cap ∧ (0 < n → ∃ g, A = some ⟨g, 0, none⟩ ∧ b ≤ g ∧ g < w.heap.size) := by
 rcases h.2 with ⟨rfl, h0⟩ | ⟨g, cap, cur, rfl, h1, h2, _⟩
 · exact ⟨none, 0, by rw [h0], fun h => by omega⟩
 · exact ⟨_, cap, rfl, fun _ => ⟨g, rfl, h1, (Array.getElem?_eq_some_iff.1 h2).1⟩⟩
theorem heap_set2 {w : World} {b o : Nat} {cs : Array Value} {t : TypeId} {v : Value} (h : w.heap[b]? = some (.cells cs t (0, 0))) : (w.setCell ⟨b, o, none⟩ v).heap[b]? = some (.cells (cs.setIfInBounds o v) t (0, 0)) := by
 have hb := (Array.getElem?_eq_some_iff.1 h).1
 unfold World.setCell
 simp [Array.getElem?_modify, h]
theorem news_blk {w : World} {B : Nat} {cs : Array Value} {t : TypeId} {fr : Nat × Nat} (hb : w.heap[B]? = some (.cells cs t fr)) : ∀ j u, cs.toList[j]? = some u → w.cell? ((⟨B, 0, none⟩ : Addr).add j) = some u := by
 intro j u hu
 have ha : (⟨B, 0, none⟩ : Addr).add j = ⟨B, 0 + j, none⟩ := by unfold Addr.add; split <;> simp_all
 rw [ha]
 simp [World.cell?, hb]
 simpa using hu
theorem row_block {w : World} {b k : Nat} {e : TypeId} {v : Value} {n : Nat} {xs : List Value} (h : w.ownsRow b e k v n xs) {g : Nat} {cs : Array Value} {t : TypeId} (hg : w.heap[g]? = some (.cells cs t (0, 0))) (hne : e ≠ t) : some g ≠ v.ownBlock := by
 rcases own_other h hg hne with e1 | e1
 · rw [e1]; simp
 · exact fun e2 => e1 e2.symm
end
section
open Go.RowKit

theorem mkM {N : Nt} {M : List Int} (h : mkB N M = true) : isM M := by
 intro p
 rcases Nat.lt_or_ge p M.length with hp | hp
 · have := mk_nums h _ (List.getElem_mem hp)
   simpa [hp] using this
 · rw [getD_out hp]; omega
theorem pls_ok {n : Int} {l : List Int} {m : Nat} (hm : (m : Int) = n) (h : plB n l = true) : plsOk l m := by
 refine ⟨fun p hp => by have := plB_in n l h p hp; omega, ?_⟩
 show List.Pairwise (· ≠ ·) l
 rw [List.pairwise_iff_getElem]
 intro i j hi hj hij e
 have key : ∀ a b (hb : b < l.length) (hab : a < b), l[a]'(by omega) < l[b] := by
  intro a b
  induction b with
  | zero => intro _ h; omega
  | succ b ih =>
   intro hb hab
   have h1 := plB_lt n l b hb h
   rcases Nat.lt_or_ge a b with h2 | h2
   · have := ih (by omega) h2; omega
   · obtain rfl : a = b := by omega
     exact h1
 have := key i j hj hij
 omega
theorem pls_len {l : List Int} {m : Nat} (h : plsOk l m) : l.length ≤ m := by
 obtain ⟨h1, h2⟩ := h
 have h3 : (l.map Int.toNat).Nodup := by
  show List.Pairwise (· ≠ ·) _
  rw [List.pairwise_map]
  exact List.Pairwise.imp_of_mem (fun {a b} ha hb hne e => hne (by have := h1 a ha; have := h1 b hb; omega)) h2
 have h4 : (l.map Int.toNat) ⊆ List.range m := by
  intro x hx
  obtain ⟨a, ha, rfl⟩ := List.mem_map.1 hx
  have := h1 a ha
  exact List.mem_range.2 (by omega)
 have := h3.length_le_of_subset h4
 simpa using this
theorem netOk_of {N : Nt} {m : Nat} (h : ntB N = true) (hm : (m : Int) = N.pl) : netOk N m := by
 intro k t hk
 unfold ntB at h
 rw [Bool.and_eq_true, Bool.and_eq_true, List.all_eq_true] at h
 have := h.2.1 t (List.mem_of_getElem? hk)
 unfold trB at this
 rw [Bool.and_eq_true, Bool.and_eq_true] at this
 exact ⟨pls_ok hm this.2.1, pls_ok hm this.2.2⟩
end
section
open Go.RowKit

section
variable {w0 wr w' : World} {v : Value} {LL : List (List Int)}
end
/-- a move -/
structure Mv where
 f : Int
 t : Int
 s : Int
def mvC (x : Mv) : List Value := [.int .i64 x.f, .int .i64 x.t, .int .i64 x.s]
section
variable {w0 wr w' : World} {v : Value} {MV : List Mv}
end
end
section
open Go.RowKit

theorem add0 (ad : Addr) : ad.add 0 = ad := by simp [Addr.add]
end
section
open Go.RowKit

/-- a place gets too many tokens -/
def overP (M : List Int) (p : Int) : Bool := decide (100 < inc1 (M.getD p.toNat 0))
theorem big_over {M l : List Int} (hl : plsOk l M.length) (hM : ∀ p : Nat, M.getD p 0 ≤ 100) : bigM (incs M l) = l.any (overP M) := by
 rw [Bool.eq_iff_iff]
 unfold bigM
 rw [List.any_eq_true, List.any_eq_true]
 constructor
 · rintro ⟨x, hx, h⟩
   obtain ⟨p, hp, rfl⟩ := List.getElem_of_mem hx
   have hg := incs_get M l hl p
   have e : (incs M l).getD p 0 = (incs M l)[p] := by simp [hp]
   rw [e] at hg
   by_cases hm : (p : Int) ∈ l
   · rw [if_pos hm] at hg
     refine ⟨(p : Int), hm, ?_⟩
     unfold overP
     rw [hg] at h
     simpa using h
   · rw [if_neg hm] at hg
     have := hM p
     have h2 := of_decide_eq_true h
     omega
 · rintro ⟨p, hp, h⟩
   have hr := hl.1 p hp
   obtain ⟨q, rfl⟩ := Int.eq_ofNat_of_zero_le hr.1
   have hq : q < (incs M l).length := by rw [incs_len]; omega
   refine ⟨(incs M l)[q], List.getElem_mem hq, ?_⟩
   have hg := incs_get M l hl q
   rw [if_pos hp] at hg
   have e : (incs M l).getD q 0 = (incs M l)[q] := by simp [hq]
   rw [← e, hg]
   simpa [overP] using h
theorem pls_take {l : List Int} {n : Nat} (h : plsOk l n) (k : Nat) : plsOk (l.take k) n :=
 ⟨fun p hp => h.1 p (List.mem_of_mem_take hp), List.Sublist.nodup (List.take_sublist k l) h.2⟩
/-- the value at the place that was set last -/
theorem incs_at {M l : List Int} {k p : Nat} (hl : plsOk l M.length) (hk : k < l.length) (hp : l[k] = (p : Int)) (hpm : p < M.length) :
 ∃ h : p < (incs M (l.take k)).length, (incs M (l.take k))[p] = M.getD p 0 := by
 refine ⟨by rw [incs_len]; exact hpm, ?_⟩
 have hg := incs_get M (l.take k) (pls_take hl k) p
 have hn : (p : Int) ∉ l.take k := by
  intro hm
  obtain ⟨j, hj, e⟩ := List.getElem_of_mem hm
  rw [List.getElem_take] at e
  rw [List.length_take] at hj
  have h2 := hl.2
  have h3 : List.Pairwise (· ≠ ·) l := h2
  rw [List.pairwise_iff_getElem] at h3
  exact h3 j k (by omega) hk (by omega) (by rw [e, hp])
 rw [if_neg hn] at hg
 have e : (incs M (l.take k)).getD p 0 = (incs M (l.take k))[p]'(by rw [incs_len]; exact hpm) := by simp [incs_len, hpm]
 rw [← e, hg]
theorem set_same {w wr : World} {g n cap p : Nat} {D : List Int} {x : Int} (_h : NS w wr (.slice (some ⟨g, 0, none⟩) n cap) D) (hc : wr.cell? ⟨g, p, none⟩ = some (.int .i64 x)) (hx : x = -1) (hp : p < D.length) : D.set p (-1) = D := by
 have h2 := (_h.cells p hp).1
 rw [hc] at h2
 injection h2 with h2
 injection h2 with _ h2
 apply List.ext_getElem (by simp)
 intro j h3 h4
 rw [List.getElem_set]
 split
 · subst_vars; exact h2
 · rfl
theorem decs_le {M : List Int} (l : List Int) (h : plsOk l M.length) (hM : ∀ p : Nat, M.getD p 0 ≤ 100) : ∀ p : Nat, (decs M l).getD p 0 ≤ 100 := by
 intro p
 rw [decs_get M l h]
 have := hM p
 have := dec1_bnd (M.getD p 0)
 split <;> omega
end
section
/-- firing a transition: the marking and the error number -/
def fireV (N : Nt) (m : List Int) (t : Int) : List Int × Int :=
 if t < 0 then ([], 2) else match N.tr[t.toNat]? with
  | none => ([], 2)
  | some x => if canT x m then (if bigM (fireT x m) then ([], 5) else (fireT x m, 0)) else ([], 12)
/-- firing the transitions of a list: the marking, the number of the one that fails, the error number -/
def runV (N : Nt) : List Int → Nat → List Int → List Int × Nat × Int
 | m, k, [] => (m, k, 0)
 | m, k, t :: l => if (fireV N m t).2 = 0 then runV N (fireV N m t).1 (k + 1) l else ([], k, (fireV N m t).2)
end
section
open Go.RowKit

/-- a block that holds a certificate -/
def CtB (w : World) (b : Nat) (vs : Array Value) : Prop := w.heap[b]? = some (.cells vs 29 (0, 0))
section
variable {w w' : World} {b : Nat} {a0 a1 a2 a3 a4 a5 a6 a7 : Value} {vs : Array Value}
theorem CtB.lt (h : CtB w b vs) : b < w.heap.size := (Array.getElem?_eq_some_iff.1 h).1
theorem CtB.below (h : CtB w b vs) (hb : Below w.heap.size w w') : CtB w' b vs := by
 unfold CtB; rw [hb.block b h.lt]; exact h
theorem CtB.cells (h : CtB w b #[a0, a1, a2, a3, a4, a5, a6, a7]) : w.cell? ⟨b, 0, none⟩ = some a0 ∧ w.cell? ⟨b, 1, none⟩ = some a1 ∧ w.cell? ⟨b, 2, none⟩ = some a2 ∧ w.cell? ⟨b, 3, none⟩ = some a3 ∧ w.cell? ⟨b, 4, none⟩ = some a4 ∧ w.cell? ⟨b, 5, none⟩ = some a5 ∧ w.cell? ⟨b, 6, none⟩ = some a6 ∧ w.cell? ⟨b, 7, none⟩ = some a7 := by
 unfold CtB at h
 simp [World.cell?, h]
end
end
end Go.Proofs.YtpnhcimmlnjfaaaGreatDoor
