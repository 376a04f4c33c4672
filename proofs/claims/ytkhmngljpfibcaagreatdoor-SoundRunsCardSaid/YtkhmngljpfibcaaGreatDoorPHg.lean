/- fire of reference 24: what a call returns. Fire of reference 21: what a call returns. Run of reference 21: what a call returns. closed of reference 24: what a call returns. Check of reference 24: what a call returns. The tree of reference 24 in memory. Fault, HasOmega, SameSpace of reference 24: what a call returns. SameSpace of reference 24: what a call returns. ContainsFunc on transitions; small of the statements: what a call returns. -/
import Derived.Test.YtkhmngljpfibcaaGreatDoorPUu
import Derived.Test.YtkhmngljpfibcaaGreatDoorPDn
import Derived.Test.YtkhmngljpfibcaaGreatDoorPDe
import Derived.Test.YtkhmngljpfibcaaGreatDoorPHd
import Derived.Laws.StructEq
namespace Go.Proofs.YtkhmngljpfibcaaGreatDoor
section
open Go.RowKit

theorem pls_take {l : List Int} {n : Nat} (h : plsOk l n) (k : Nat) : plsOk (l.take k) n :=
 ⟨fun p hp => h.1 p (List.mem_of_mem_take hp), List.Sublist.nodup (List.take_sublist k l) h.2⟩
theorem incs_at {M l : List Int} {k p : Nat} (hl : plsOk l M.length) (hk : k < l.length) (hp : l[k] = (p : Int)) (hpm : p < M.length) :
 ∃ h : p < (incs M (l.take k)).length, (incs M (l.take k))[p] = M.getD p 0 := by
 refine ⟨by rw [incs_len]; exact hpm, ?_⟩;have hg := incs_get M (l.take k) (pls_take hl k) p;have hn : (p : Int) ∉ l.take k := by
  intro hm;obtain ⟨j, hj, e⟩ := List.getElem_of_mem hm;rw [List.getElem_take] at e;rw [List.length_take] at hj;have h2 := hl.2;have h3 : List.Pairwise (· ≠ ·) l := h2;rw [List.pairwise_iff_getElem] at h3;exact h3 j k (by omega) hk (by omega) (by rw [e, hp])
 rw [if_neg hn] at hg;have e : (incs M (l.take k)).getD p 0 = (incs M (l.take k))[p]'(by rw [incs_len]; exact hpm) := by simp [incs_len, hpm]
 rw [← e, hg]
end
section
open Go.RowKit

def fire21 (N : Nt) (M : List Int) (t : Int) : List Int × Int := if mkB N M then fireV N M t else ([], 1)
def FvPo (r : List Int × Int) (w : World) (e : Ending) (w' : World) : Prop := if r.2 = 0 then ∃ v, e = .returned (.tuple #[v, .int .i64 0]) ∧ NS w w' v r.1 else e = .returned (.tuple #[.slice none 0 0, .int .i64 r.2]) ∧ Below w.heap.size w w'
theorem FvPo.no {r : List Int × Int} {w w' : World} {e : Ending} {k : Int} (h : r = ([], k)) (hk : k ≠ 0) (he : e = .returned (.tuple #[.slice none 0 0, .int .i64 k])) (hb : Below w.heap.size w w') : FvPo r w e w' := by
 subst h; unfold FvPo; rw [if_neg hk]; exact ⟨he, hb⟩
theorem FvPo.yes {r : List Int × Int} {w w' : World} {e : Ending} {L : List Int} {v : Value} (h : r = (L, 0)) (he : e = .returned (.tuple #[v, .int .i64 0])) (hs : NS w w' v L) : FvPo r w e w' := by
 subst h; unfold FvPo; rw [if_pos rfl]; exact ⟨v, he, hs⟩
theorem FvPo.parts {r : List Int × Int} {w w' : World} {e : Ending} (h : FvPo r w e w') : (r.2 = 0 ∧ ∃ v, e = .returned (.tuple #[v, .int .i64 0]) ∧ NS w w' v r.1) ∨ (r.2 ≠ 0 ∧ e = .returned (.tuple #[.slice none 0 0, .int .i64 r.2]) ∧ Below w.heap.size w w') := by
 unfold FvPo at h;by_cases h0 : r.2 = 0
 · rw [if_pos h0] at h; exact .inl ⟨h0, h⟩
 · rw [if_neg h0] at h; exact .inr ⟨h0, h⟩
theorem decs_at {M l : List Int} {k p : Nat} (hl : plsOk l M.length) (hk : k < l.length) (hp : l[k] = (p : Int)) (hpm : p < M.length) :
 ∃ h : p < (decs M (l.take k)).length, (decs M (l.take k))[p] = M.getD p 0 := by
 refine ⟨by rw [decs_len]; exact hpm, ?_⟩;have hg := decs_get M (l.take k) (pls_take hl k) p;have hn : (p : Int) ∉ l.take k := by
  intro hm;obtain ⟨j, hj, e⟩ := List.getElem_of_mem hm;rw [List.getElem_take] at e;rw [List.length_take] at hj;have h3 : List.Pairwise (· ≠ ·) l := hl.2;rw [List.pairwise_iff_getElem] at h3;exact h3 j k (by omega) hk (by omega) (by rw [e, hp])
 rw [if_neg hn] at hg;have e : (decs M (l.take k)).getD p 0 = (decs M (l.take k))[p]'(by rw [decs_len]; exact hpm) := by simp [decs_len, hpm]
 rw [← e, hg]
theorem decs_nonneg {t : Tr} {M : List Int} (hl : plsOk t.i M.length) (hM : nonneg M) (hc : canT t M = true) : nonneg (decs M t.i) := by
 intro p;rw [decs_get M t.i hl];have h1 := hM p;split
 · rename_i hp;have := canT_get hc p hp;unfold dec1; split <;> omega
 · exact h1
theorem bad_big {R : List Int} (h : nonneg R) : R.any badK = bigM R := by
 unfold bigM;rw [Bool.eq_iff_iff, List.any_eq_true, List.any_eq_true];constructor
 · rintro ⟨x, hx, hb⟩;obtain ⟨p, hp, rfl⟩ := List.getElem_of_mem hx;have h1 := h p;have e : R.getD p 0 = R[p] := by simp [hp]
   rw [e] at h1;refine ⟨_, hx, ?_⟩;unfold badK at hb;simp only [Bool.or_eq_true, decide_eq_true_eq] at hb ⊢;omega
 · rintro ⟨x, hx, hb⟩;exact ⟨x, hx, by unfold badK; rw [hb]; simp⟩
end
section
open Go.RowKit

theorem fv_yes {P : Program} {f : FuncId} {args : Array Value} {w : World} {r : List Int × Int} (h : Calls P f args w (FvPo r w)) (h0 : r.2 = 0) : Calls P f args w fun e w' => ∃ v, e = .returned (.tuple #[v, .int .i64 0]) ∧ NS w w' v r.1 :=
 h.mono fun e w' h1 => by unfold FvPo at h1; rw [if_pos h0] at h1; exact h1
theorem fv_no {P : Program} {f : FuncId} {args : Array Value} {w : World} {r : List Int × Int} (h : Calls P f args w (FvPo r w)) (h0 : r.2 ≠ 0) : Calls P f args w fun e w' => e = .returned (.tuple #[.slice none 0 0, .int .i64 r.2]) ∧ Below w.heap.size w w' :=
 h.mono fun e w' h1 => by unfold FvPo at h1; rw [if_neg h0] at h1; exact h1
theorem fire_mk {N : Nt} {M : List Int} {t : Int} (hm : mkB N M = true) (h : (fireV N M t).2 = 0) : mkB N (fireV N M t).1 = true := by
 have hml := mk_len hm;have hok := netOk_of (mk_nt hm) hml;have hisM := mkM hm;by_cases ht : t < 0
 · simp [fireV, ht] at h
 cases hx : N.tr[t.toNat]? with
 | none => simp [fireV, ht, hx] at h
 | some x =>
  have e : fireV N M t = if canT x M then (if bigM (fireT x M) then ([], 5) else (fireT x M, 0)) else ([], 12) := by
   unfold fireV; rw [if_neg ht, hx]
  rw [e] at h ⊢;by_cases hc : canT x M = true
  · rw [if_pos hc] at h ⊢;by_cases hb : bigM (fireT x M) = true
    · rw [if_pos hb] at h; simp at h
    · rw [if_neg hb];have hnn : nonneg (fireT x M) := fun p => by
       obtain ⟨e1, e2⟩ := fire_real (t := x) (x := M) (hok _ x hx) (fun p => (hisM p).1) hc p;rw [e1]; exact e2
      show mkB N (fireT x M) = true;unfold mkB;rw [mk_nt hm, fireT_len, decide_eq_true hml, bad_big hnn];simpa using hb
  · rw [if_neg hc] at h; simp at h
theorem runV_step {N : Nt} {M : List Int} {k : Nat} {t : Int} {l : List Int} (h : (fireV N M t).2 = 0) : runV N M k (t :: l) = runV N (fireV N M t).1 (k + 1) l := by
 rw [runV, if_pos h]
theorem runV_stop {N : Nt} {M : List Int} {k : Nat} {t : Int} {l : List Int} (h : (fireV N M t).2 ≠ 0) : runV N M k (t :: l) = ([], k, (fireV N M t).2) := by
 rw [runV, if_neg h]
def run21 (N : Nt) (M l : List Int) : List Int × Nat × Int := if mkB N M then (if 1000 < l.length then ([], 0, 5) else runV N M 0 l) else ([], 0, 1)
def RvPo (r : List Int × Nat × Int) (w : World) (e : Ending) (w' : World) : Prop := if r.2.2 = 0 then ∃ v, e = .returned (.tuple #[v, .int .i64 (r.2.1 : Int), .int .i64 0]) ∧ NS w w' v r.1 else e = .returned (.tuple #[.slice none 0 0, .int .i64 (r.2.1 : Int), .int .i64 r.2.2]) ∧ Below w.heap.size w w'
theorem RvPo.no {r : List Int × Nat × Int} {w w' : World} {e : Ending} {k : Int} {i : Nat} (h : r = ([], i, k)) (hk : k ≠ 0) (he : e = .returned (.tuple #[.slice none 0 0, .int .i64 (i : Int), .int .i64 k])) (hb : Below w.heap.size w w') : RvPo r w e w' := by
 subst h; unfold RvPo; rw [if_neg hk]; exact ⟨he, hb⟩
theorem RvPo.yes {r : List Int × Nat × Int} {w w' : World} {e : Ending} {L : List Int} {v : Value} {i : Nat} (h : r = (L, i, 0)) (he : e = .returned (.tuple #[v, .int .i64 (i : Int), .int .i64 0])) (hs : NS w w' v L) : RvPo r w e w' := by
 subst h; unfold RvPo; rw [if_pos rfl]; exact ⟨v, he, hs⟩
def RnI (N : Nt) (R : List Int × Nat × Int) (l : List Int) (n : Nat) (w0 : World) (g : Nat) (iv ov : Value) (wr : World) : Prop :=
 ∃ (k : Nat) (L : List Int), k + g = n ∧ iv = .int .i64 (k : Int) ∧ NS w0 wr ov L ∧ mkB N L = true ∧ R = runV N L k (l.drop k)
end
section
open Go.RowKit

def okT (N : Nt) (LL : List (List Int)) (s : List Int) (t : Nat) : Bool := match N.tr[t]? with
 | some x => !canT x s || (decide ((fireV N s (t : Int)).2 = 0) && decide ((fireV N s (t : Int)).1 ∈ LL))
 | none => true
def okS (N : Nt) (LL : List (List Int)) (k : Nat) (s : List Int) : Bool := (List.range k).all (okT N LL s)
def closedB (N : Nt) (M : List Int) (LL : List (List Int)) : Bool := decide (M ∈ LL) && (LL.all (mkB N) && LL.all (okS N LL N.tr.length))
end
section
open Go.RowKit

structure Ct where
 cl : Int
 n : Int
 run : List Int
 pump : List Int
 marks : List (List Int)
def endB (x y : List Int) (k : Int) : Bool := atMost x y && decide (x.getD k.toNat 0 < y.getD k.toNat 0)
def pumpB (N : Nt) (M : List Int) (C : Ct) : Bool := decide ((run21 N M C.run).2.2 = 0) && (decide ((run21 N (run21 N M C.run).1 C.pump).2.2 = 0) && endB (run21 N M C.run).1 (run21 N (run21 N M C.run).1 C.pump).1 C.n)
def badC (N : Nt) (C : Ct) : Bool := decide (C.cl ≠ 6) || (decide (C.pump.length = 0) || (decide (C.n < 0) || decide (N.pl ≤ C.n)))
def chkB (N : Nt) (M : List Int) (C : Ct) : Bool := mkB N M && (if C.cl = 5 then closedB N M C.marks else !badC N C && pumpB N M C)
theorem runV_mk {N : Nt} : ∀ (l : List Int) (M : List Int) (k : Nat), mkB N M = true → (runV N M k l).2.2 = 0 → mkB N (runV N M k l).1 = true := by
 intro l
 induction l with
 | nil => intro M k hm _; exact hm
 | cons t l ih =>
  intro M k hm h;by_cases h0 : (fireV N M t).2 = 0
  · rw [runV_step h0] at h ⊢; exact ih _ _ (fire_mk hm h0) h
  · rw [runV_stop h0] at h; exact absurd h h0
theorem run21_mk {N : Nt} {M l : List Int} (h : (run21 N M l).2.2 = 0) : mkB N (run21 N M l).1 = true := by
 unfold run21 at h ⊢;by_cases hm : mkB N M = true
 · rw [if_pos hm] at h ⊢;by_cases hl : 1000 < l.length
   · rw [if_pos hl] at h; simp at h
   · rw [if_neg hl] at h ⊢; exact runV_mk l M 0 hm h
 · rw [if_neg hm] at h; simp at h
end
section
open Go.RowKit

theorem OMv.app {w0 wr w' : World} {v : Value} {MV : List Mv} (h : OMv w0 wr v MV) {o : Obj} {b k n : Nat} {e : TypeId} {x : Value} {xs : List Value} (hr : wr.ownsRow b e k x n xs) (h1 : 113 ≠ e) (hg : (wr.alloc o).grownBy w' x.ownBlock) (hbase : w0.heap.size ≤ b) : OMv w0 w' v MV :=
 ⟨(h.1.alloc o).kept hg (own_apart (h.1.alloc o) (hr.alloc o) h1), (h.2.alloc h.2.size o).grown hg (by have := h.2.size; simp; omega) (fun k hk => Nat.le_trans hbase (hr.lt k hk).1)⟩
end
section
open Go.RowKit

def omB (ST : List (List Int)) : Bool := ST.any hasO
instance : DecidableEq Mv := fun a b => by
 cases a; cases b;simp only [Mv.mk.injEq]
 infer_instance
end
section
open Go.RowKit

theorem mv_cells {w : World} {A : Option Addr} {MV : List Mv} (h : Rd mvC 3 w A MV) {k : Nat} (hk : k < MV.length) :
 ∃ ad, A = some ad ∧ (ad.add (k * 3)).block < w.heap.size ∧ w.cell? (ad.add (k * 3)) = some (.int .i64 MV[k].f) ∧ w.cell? ⟨(ad.add (k * 3)).block, (ad.add (k * 3)).off + 1, none⟩ = some (.int .i64 MV[k].t) ∧ w.cell? ⟨(ad.add (k * 3)).block, (ad.add (k * 3)).off + 1 + 1, none⟩ = some (.int .i64 MV[k].s) := by
 obtain ⟨ad, e, h1, h2⟩ := h k hk;refine ⟨ad, e, h1, h2 0 _ (by omega) rfl, ?_, ?_⟩
 · have := h2 1 _ (by omega) rfl;rwa [add_at _ _ _ (by omega)] at this
 · have := h2 2 _ (by omega) rfl;rwa [add_at _ _ _ (by omega)] at this
end
section
open Go.RowKit

def bigT (t : Tr) : Bool := decide (12 < t.i.length) || (decide (12 < t.o.length) || decide (100 < t.lb.size))
end
end Go.Proofs.YtkhmngljpfibcaaGreatDoor
