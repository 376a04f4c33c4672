/- fire of reference 24: what a call returns. Fire of reference 21: what a call returns. Run of reference 21: what a call returns. Find and raise of reference 24: what a call returns. closed of reference 24: what a call returns. Check of reference 24: what a call returns. IndexFunc and ContainsFunc on lists of lists; none, fits of the statements: what a call returns. verdict: marking, markings, enabled: what a call returns. verdict: fire, most, one, index: what a call returns. The tree of reference 24 in memory. Fault, HasOmega, SameSpace of reference 24: what a call returns. SameSpace of reference 24: what a call returns. cover.Covers: the closure, and what its loops keep. ContainsFunc on transitions; small of the statements: what a call returns. -/
import Derived.Test.YtkhmngljpfibcaaGreatDoorPUu
import Derived.Test.YtkhmngljpfibcaaGreatDoorPDn
import Derived.Test.YtkhmngljpfibcaaGreatDoorPDe
import Derived.Test.YtkhmngljpfibcaaGreatDoorPHd
import Derived.Test.YtkhmngljpfibcaaGreatDoorPCm
import Derived.Test.YtkhmngljpfibcaaGreatDoorPCp
import Derived.Test.YtkhmngljpfibcaaGreatDoorPBg
import Derived.Deep.OwnRows
import Derived.Laws.StructEq
namespace Go.Proofs.YtkhmngljpfibcaaGreatDoor
set_option maxRecDepth 100000
set_option maxHeartbeats 3200000
open Go.Lib (hid)
section
open Go.RowKit

theorem pls_take {l : List Int} {n : Nat} (h : plsOk l n) (k : Nat) : plsOk (l.take k) n :=
 ⟨fun p hp => h.1 p (List.mem_of_mem_take hp), List.Sublist.nodup (List.take_sublist k l) h.2⟩
theorem incs_at {M l : List Int} {k p : Nat} (hl : plsOk l M.length) (hk : k < l.length) (hp : l[k] = (p : Int)) (hpm : p < M.length) :
 ∃ h : p < (incs M (l.take k)).length, (incs M (l.take k))[p] = M.getD p 0 := by
 refine ⟨by rw [incs_len]; exact hpm, ?_⟩;have hg := incs_get M (l.take k) (pls_take hl k) p;have hn : (p : Int) ∉ l.take k := by
  intro hm;obtain ⟨j, hj, e⟩ := List.getElem_of_mem hm;rw [List.getElem_take] at e;rw [List.length_take] at hj;have h2 := hl.2;have h3 : List.Pairwise (· ≠ ·) l := h2;rw [List.pairwise_iff_getElem] at h3;exact h3 j k (by omega) hk (by omega) (by rw [e, hp])
 rw [if_neg hn] at hg;have e : (incs M (l.take k)).getD p 0 = (incs M (l.take k))[p]'(by rw [incs_len]; exact hpm) := by simp [incs_len, hpm]
 rw [← e, hg]
end
section
open Go.RowKit

def fire21 (N : Nt) (M : List Int) (t : Int) : List Int × Int := if mkB N M then fireV N M t else ([], 1)
def FvPo (r : List Int × Int) (w : World) (e : Ending) (w' : World) : Prop := if r.2 = 0 then ∃ v, e = .returned (.tuple #[v, .int .i64 0]) ∧ NS w w' v r.1 else e = .returned (.tuple #[.slice none 0 0, .int .i64 r.2]) ∧ Below w.heap.size w w'
theorem FvPo.no {r : List Int × Int} {w w' : World} {e : Ending} {k : Int} (h : r = ([], k)) (hk : k ≠ 0) (he : e = .returned (.tuple #[.slice none 0 0, .int .i64 k])) (hb : Below w.heap.size w w') : FvPo r w e w' := by
 subst h; unfold FvPo; rw [if_neg hk]; exact ⟨he, hb⟩
theorem FvPo.yes {r : List Int × Int} {w w' : World} {e : Ending} {L : List Int} {v : Value} (h : r = (L, 0)) (he : e = .returned (.tuple #[v, .int .i64 0])) (hs : NS w w' v L) : FvPo r w e w' := by
 subst h; unfold FvPo; rw [if_pos rfl]; exact ⟨v, he, hs⟩
theorem FvPo.parts {r : List Int × Int} {w w' : World} {e : Ending} (h : FvPo r w e w') : (r.2 = 0 ∧ ∃ v, e = .returned (.tuple #[v, .int .i64 0]) ∧ NS w w' v r.1) ∨ (r.2 ≠ 0 ∧ e = .returned (.tuple #[.slice none 0 0, .int .i64 r.2]) ∧ Below w.heap.size w w') := by
 unfold FvPo at h;by_cases h0 : r.2 = 0
 · rw [if_pos h0] at h; exact .inl ⟨h0, h⟩
 · rw [if_neg h0] at h; exact .inr ⟨h0, h⟩
theorem decs_at {M l : List Int} {k p : Nat} (hl : plsOk l M.length) (hk : k < l.length) (hp : l[k] = (p : Int)) (hpm : p < M.length) :
 ∃ h : p < (decs M (l.take k)).length, (decs M (l.take k))[p] = M.getD p 0 := by
 refine ⟨by rw [decs_len]; exact hpm, ?_⟩;have hg := decs_get M (l.take k) (pls_take hl k) p;have hn : (p : Int) ∉ l.take k := by
  intro hm;obtain ⟨j, hj, e⟩ := List.getElem_of_mem hm;rw [List.getElem_take] at e;rw [List.length_take] at hj;have h3 : List.Pairwise (· ≠ ·) l := hl.2;rw [List.pairwise_iff_getElem] at h3;exact h3 j k (by omega) hk (by omega) (by rw [e, hp])
 rw [if_neg hn] at hg;have e : (decs M (l.take k)).getD p 0 = (decs M (l.take k))[p]'(by rw [decs_len]; exact hpm) := by simp [decs_len, hpm]
 rw [← e, hg]
theorem decs_nonneg {t : Tr} {M : List Int} (hl : plsOk t.i M.length) (hM : nonneg M) (hc : canT t M = true) : nonneg (decs M t.i) := by
 intro p;rw [decs_get M t.i hl];have h1 := hM p;split
 · rename_i hp;have := canT_get hc p hp;unfold dec1; split <;> omega
 · exact h1
theorem bad_big {R : List Int} (h : nonneg R) : R.any badK = bigM R := by
 unfold bigM;rw [Bool.eq_iff_iff, List.any_eq_true, List.any_eq_true];constructor
 · rintro ⟨x, hx, hb⟩;obtain ⟨p, hp, rfl⟩ := List.getElem_of_mem hx;have h1 := h p;have e : R.getD p 0 = R[p] := by simp [hp]
   rw [e] at h1;refine ⟨_, hx, ?_⟩;unfold badK at hb;simp only [Bool.or_eq_true, decide_eq_true_eq] at hb ⊢;omega
 · rintro ⟨x, hx, hb⟩;exact ⟨x, hx, by unfold badK; rw [hb]; simp⟩
end
section
open Go.RowKit

theorem fv_yes {P : Program} {f : FuncId} {args : Array Value} {w : World} {r : List Int × Int} (h : Calls P f args w (FvPo r w)) (h0 : r.2 = 0) : Calls P f args w fun e w' => ∃ v, e = .returned (.tuple #[v, .int .i64 0]) ∧ NS w w' v r.1 :=
 h.mono fun e w' h1 => by unfold FvPo at h1; rw [if_pos h0] at h1; exact h1
theorem fv_no {P : Program} {f : FuncId} {args : Array Value} {w : World} {r : List Int × Int} (h : Calls P f args w (FvPo r w)) (h0 : r.2 ≠ 0) : Calls P f args w fun e w' => e = .returned (.tuple #[.slice none 0 0, .int .i64 r.2]) ∧ Below w.heap.size w w' :=
 h.mono fun e w' h1 => by unfold FvPo at h1; rw [if_neg h0] at h1; exact h1
theorem fire_mk {N : Nt} {M : List Int} {t : Int} (hm : mkB N M = true) (h : (fireV N M t).2 = 0) : mkB N (fireV N M t).1 = true := by
 have hml := mk_len hm;have hok := netOk_of (mk_nt hm) hml;have hisM := mkM hm;by_cases ht : t < 0
 · simp [fireV, ht] at h
 cases hx : N.tr[t.toNat]? with
 | none => simp [fireV, ht, hx] at h
 | some x =>
  have e : fireV N M t = if canT x M then (if bigM (fireT x M) then ([], 5) else (fireT x M, 0)) else ([], 12) := by
   unfold fireV; rw [if_neg ht, hx]
  rw [e] at h ⊢;by_cases hc : canT x M = true
  · rw [if_pos hc] at h ⊢;by_cases hb : bigM (fireT x M) = true
    · rw [if_pos hb] at h; simp at h
    · rw [if_neg hb];have hnn : nonneg (fireT x M) := fun p => by
       obtain ⟨e1, e2⟩ := fire_real (t := x) (x := M) (hok _ x hx) (fun p => (hisM p).1) hc p;rw [e1]; exact e2
      show mkB N (fireT x M) = true;unfold mkB;rw [mk_nt hm, fireT_len, decide_eq_true hml, bad_big hnn];simpa using hb
  · rw [if_neg hc] at h; simp at h
theorem runV_step {N : Nt} {M : List Int} {k : Nat} {t : Int} {l : List Int} (h : (fireV N M t).2 = 0) : runV N M k (t :: l) = runV N (fireV N M t).1 (k + 1) l := by
 rw [runV, if_pos h]
theorem runV_stop {N : Nt} {M : List Int} {k : Nat} {t : Int} {l : List Int} (h : (fireV N M t).2 ≠ 0) : runV N M k (t :: l) = ([], k, (fireV N M t).2) := by
 rw [runV, if_neg h]
def run21 (N : Nt) (M l : List Int) : List Int × Nat × Int := if mkB N M then (if 1000 < l.length then ([], 0, 5) else runV N M 0 l) else ([], 0, 1)
end
section
open Go.RowKit

def findR (LL : List (List Int)) (m : List Int) : Int := if (LL.findIdx fun s => decide (s = m)) = LL.length then -1 else ((LL.findIdx fun s => decide (s = m) : Nat) : Int)
theorem find_no {LL : List (List Int)} {m : List Int} (h : ∀ s ∈ LL, s ≠ m) : findR LL m = -1 := by
 unfold findR;rw [if_pos];apply List.findIdx_eq_length_of_false;intro x hx;simp only [decide_eq_false_iff_not];exact h x hx
theorem find_at {LL : List (List Int)} {m : List Int} {k : Nat} (h : k < LL.length) (hm : LL[k] = m) (hno : ∀ s ∈ LL.take k, s ≠ m) : findR LL m = (k : Int) := by
 have e : (LL.findIdx fun s => decide (s = m)) = k := by
  rw [List.findIdx_eq h];refine ⟨by simpa using hm, fun j hj => ?_⟩;simp only [decide_eq_false_iff_not];exact hno _ (by rw [List.mem_take_iff_getElem]; exact ⟨j, by omega, rfl⟩)
 unfold findR;rw [e, if_neg (by omega)]
theorem find_any (A : Option Addr) (n c : Nat) (LL : List (List Int)) (Am : Option Addr) (m cm : Nat) (M : List Int) (w : World) (h : LIn w A LL) (hn : LL.length = n) (hn2 : n ≤ 9223372036854775806) (hM : ZIn w Am M) (hm : M.length = m) :
 Calls Tryz.prog 130 #[.slice A n c, .slice Am m cm] w fun e w' => e = .returned (.int .i64 (findR LL M)) ∧ Below w.heap.size w w' := by
 have HL := hid h;have HM := hid hM;have HN := hid hn;have HMl := hid hm;clear h hM hn hm;go_enter Tryz.func130, Tryz.ntmps130;go_wp2_with fail;go_loopg [5] (n) (fun g iv wr => ∃ k : Nat, k + g = n ∧ iv = .int .i64 k ∧ (∀ s ∈ LL.take k, s ≠ M) ∧ Below w.heap.size w wr);case atStart => exact ⟨0, by omega, rfl, by simp, Below.refl _ _⟩
 case round =>
  obtain ⟨k, hk, rfl, hp, hB⟩ := hrel;have HB := hid hB;have HK := hid hk;have HP := hid hp;have HLr := hid (HL.out.below hB);have HMr := hid (HM.out.below hB);have hle : k ≤ n := by omega
  clear hk hp hB;by_cases hlt : k < n
  · have hlt' : k < LL.length := by rw [HN.out]; exact hlt
    obtain ⟨ad, rfl, hpa, u, q0, Ax, nx, cx, rfl, zx, hx1, hx2, hx3⟩ := HLr.out k hlt';have HAt := hid (fun e => find_at hlt' e HP.out);have HTk := hid (List.take_succ_eq_append_getElem hlt');generalize LL[k] = X at *;have HS := hid (same_any Ax nx cx Am m cm X M wr zx hx1 HMr.out HMl.out (by omega));clear hlt' zx hx1;by_cases he : X = M
    · have HV := hid (HAt.out he);rw [decide_eq_true he] at HS;clear he HAt;go_wp2_with fail;((with_reducible refine HS.out.mono ?_); rintro e w1 ⟨rfl, hb1⟩)
      have HB1 := hid (below_then HB.out hb1);clear hb1;go_wp2_with fail;go_ret;exact ⟨ret_int HV.out.symm, HB1.out⟩
    · have HV := hid (show ∀ s ∈ LL.take (k + 1), s ≠ M by
       rw [HTk.out]; intro s hs;rcases List.mem_append.1 hs with h1 | h1
       · exact HP.out s h1
       · have : s = X := by simpa using h1
         subst this; exact he)
      rw [decide_eq_false he] at HS;clear he HAt;go_wp2_with fail;((with_reducible refine HS.out.mono ?_); rintro e w1 ⟨rfl, hb1⟩)
      have HB1 := hid (below_then HB.out hb1);clear hb1;go_wp2_with fail;go_roundg (gk - 1);case measure => have := HK.out; omega
      case rel => exact ⟨k + 1, by have := HK.out; omega, by go_num, HV.out, HB1.out⟩
  · have HV := hid (show findR LL M = -1 from find_no (by have := HP.out; rwa [List.take_of_length_le (by rw [HN.out]; omega)] at this));go_wp2_with fail;go_ret;exact ⟨ret_int HV.out.symm, HB.out⟩
end
section
open Go.RowKit

def okT (N : Nt) (LL : List (List Int)) (s : List Int) (t : Nat) : Bool := match N.tr[t]? with
 | some x => !canT x s || (decide ((fireV N s (t : Int)).2 = 0) && decide ((fireV N s (t : Int)).1 ∈ LL))
 | none => true
def okS (N : Nt) (LL : List (List Int)) (k : Nat) (s : List Int) : Bool := (List.range k).all (okT N LL s)
def closedB (N : Nt) (M : List Int) (LL : List (List Int)) : Bool := decide (M ∈ LL) && (LL.all (mkB N) && LL.all (okS N LL N.tr.length))
end
section
open Go.RowKit

structure Ct where
 cl : Int
 n : Int
 run : List Int
 pump : List Int
 marks : List (List Int)
def endB (x y : List Int) (k : Int) : Bool := atMost x y && decide (x.getD k.toNat 0 < y.getD k.toNat 0)
def pumpB (N : Nt) (M : List Int) (C : Ct) : Bool := decide ((run21 N M C.run).2.2 = 0) && (decide ((run21 N (run21 N M C.run).1 C.pump).2.2 = 0) && endB (run21 N M C.run).1 (run21 N (run21 N M C.run).1 C.pump).1 C.n)
def badC (N : Nt) (C : Ct) : Bool := decide (C.cl ≠ 6) || (decide (C.pump.length = 0) || (decide (C.n < 0) || decide (N.pl ≤ C.n)))
def chkB (N : Nt) (M : List Int) (C : Ct) : Bool := mkB N M && (if C.cl = 5 then closedB N M C.marks else !badC N C && pumpB N M C)
theorem runV_mk {N : Nt} : ∀ (l : List Int) (M : List Int) (k : Nat), mkB N M = true → (runV N M k l).2.2 = 0 → mkB N (runV N M k l).1 = true := by
 intro l
 induction l with
 | nil => intro M k hm _; exact hm
 | cons t l ih =>
  intro M k hm h;by_cases h0 : (fireV N M t).2 = 0
  · rw [runV_step h0] at h ⊢; exact ih _ _ (fire_mk hm h0) h
  · rw [runV_stop h0] at h; exact absurd h h0
theorem run21_mk {N : Nt} {M l : List Int} (h : (run21 N M l).2.2 = 0) : mkB N (run21 N M l).1 = true := by
 unfold run21 at h ⊢;by_cases hm : mkB N M = true
 · rw [if_pos hm] at h ⊢;by_cases hl : 1000 < l.length
   · rw [if_pos hl] at h; simp at h
   · rw [if_neg hl] at h ⊢; exact runV_mk l M 0 hm h
 · rw [if_neg hm] at h; simp at h
end
section
open Go.RowKit

def lidx (p : List Int → Bool) (L : List (List Int)) : Int := if L.findIdx p = L.length then -1 else ((L.findIdx p : Nat) : Int)
theorem lidx_at {p : List Int → Bool} {L : List (List Int)} {k : Nat} (h : k < L.length) (hp : p L[k] = true) (hno : ∀ s ∈ L.take k, p s = false) : lidx p L = (k : Int) := by
 have e : L.findIdx p = k := by
  rw [List.findIdx_eq h];exact ⟨hp, fun j hj => hno _ (by rw [List.mem_take_iff_getElem]; exact ⟨j, by omega, rfl⟩)⟩
 unfold lidx;rw [e, if_neg (by omega)]
theorem lidx_no {p : List Int → Bool} {L : List (List Int)} (h : ∀ s ∈ L, p s = false) : lidx p L = -1 := by
 unfold lidx;rw [if_pos (List.findIdx_eq_length_of_false h)]
theorem lidx_any (p : List Int → Bool) (L : List (List Int)) : decide (0 ≤ lidx p L) = L.any p := by
 rw [Bool.eq_iff_iff, decide_eq_true_eq, List.any_eq_true];constructor
 · intro h;apply Classical.byContradiction;intro hno;rw [lidx_no (fun s hs => by
    cases hv : p s with
    | false => rfl
    | true => exact absurd ⟨s, hs, hv⟩ hno)] at h
   omega
 · rintro ⟨s, hs, hp⟩;have := List.findIdx_lt_length_of_exists ⟨s, hs, hp⟩;unfold lidx;rw [if_neg (by omega)]; omega
def longM (s : List Int) : Bool := decide (40 < s.length)
def fitB (C : Ct) : Bool := decide (C.run.length ≤ 1000) && (decide (C.pump.length ≤ 1000) && (decide (C.marks.length ≤ 300) && !C.marks.any longM))
end
section
open Go.RowKit

def badX (ext : Bool) (k : Int) : Bool := (decide (k < 0) || decide (100 < k)) && !(ext && decide (k = -1))
def mkX (pl : Int) (ext : Bool) (m : List Int) : Bool := decide ((m.length : Int) = pl) && !(m.any (badX ext))
def mksX (pl : Int) (ext : Bool) (L : List (List Int)) : Bool := L.all (mkX pl ext)
end
section
open Go.RowKit

theorem mk_ints (n : Nat) (hn : n ≤ 1000000) (w : World) : (Instr.makeSlice 27 (.int .i64 (n : Int)) (.int .i64 (n : Int))).run Tryz.prog w = .ok (.slice (some ⟨w.heap.size, 0, none⟩) n n) (w.alloc (.cells (madeCells #[.int .i64 0] n) 3)) := run_make_row' 27 3 (.int .i64 0) 8 Tryz.underlying27 intInfo rfl .i64 .i64 n (by omega) (by omega) w
def oneM (pl : Nat) (p : Nat) : List Int := (List.replicate pl (0 : Int)).set p 1
theorem oneM_len (pl p : Nat) : (oneM pl p).length = pl := by simp [oneM]
theorem NS.one1 (w : World) (n p : Nat) (hn : n ≤ 1000000) : NS w (w.alloc (.cells ((madeCells #[.int .i64 0] n).setIfInBounds p (.int .i64 1)) 3)) (.slice (some ⟨w.heap.size, 0, none⟩) n n) (oneM n p) := by
 have e : ((madeCells #[Value.int .i64 0] n).setIfInBounds p (.int .i64 1)).toList = (oneM n p).map (Value.int .i64) := by
  rw [Array.toList_setIfInBounds, toList_madeCells_one];unfold oneM;rw [List.map_set, List.map_replicate]
 have ho := World.ownsRow_lit (base := w.heap.size) (e := 3) (size := 1) w ((madeCells #[.int .i64 0] n).setIfInBounds p (.int .i64 1)) n (Nat.le_refl _) (by unfold maxLen; omega) (by simp [madeCells]);rw [e] at ho;exact ⟨by rw [oneM_len]; exact ho, below_alloc w _⟩
def isL (X s : List Int) : Bool := decide (s = X)
end
section
open Go.RowKit

theorem OMv.app {w0 wr w' : World} {v : Value} {MV : List Mv} (h : OMv w0 wr v MV) {o : Obj} {b k n : Nat} {e : TypeId} {x : Value} {xs : List Value} (hr : wr.ownsRow b e k x n xs) (h1 : 113 ≠ e) (hg : (wr.alloc o).grownBy w' x.ownBlock) (hbase : w0.heap.size ≤ b) : OMv w0 w' v MV :=
 ⟨(h.1.alloc o).kept hg (own_apart (h.1.alloc o) (hr.alloc o) h1), (h.2.alloc h.2.size o).grown hg (by have := h.2.size; simp; omega) (fun k hk => Nat.le_trans hbase (hr.lt k hk).1)⟩
end
section
open Go.RowKit

def omB (ST : List (List Int)) : Bool := ST.any hasO
instance : DecidableEq Mv := fun a b => by
 cases a; cases b;simp only [Mv.mk.injEq]
 infer_instance
end
section
open Go.RowKit

theorem mv_cells {w : World} {A : Option Addr} {MV : List Mv} (h : Rd mvC 3 w A MV) {k : Nat} (hk : k < MV.length) :
 ∃ ad, A = some ad ∧ (ad.add (k * 3)).block < w.heap.size ∧ w.cell? (ad.add (k * 3)) = some (.int .i64 MV[k].f) ∧ w.cell? ⟨(ad.add (k * 3)).block, (ad.add (k * 3)).off + 1, none⟩ = some (.int .i64 MV[k].t) ∧ w.cell? ⟨(ad.add (k * 3)).block, (ad.add (k * 3)).off + 1 + 1, none⟩ = some (.int .i64 MV[k].s) := by
 obtain ⟨ad, e, h1, h2⟩ := h k hk;refine ⟨ad, e, h1, h2 0 _ (by omega) rfl, ?_, ?_⟩
 · have := h2 1 _ (by omega) rfl;rwa [add_at _ _ _ (by omega)] at this
 · have := h2 2 _ (by omega) rfl;rwa [add_at _ _ _ (by omega)] at this
end
section
open Go.RowKit

def fill1 (n k : Nat) : List Int := List.replicate k (-1) ++ List.replicate (n - k) 0
theorem fill1_len (n k : Nat) (h : k ≤ n) : (fill1 n k).length = n := by unfold fill1; simp; omega
theorem fill1_set (n k : Nat) (h : k < n) : (fill1 n k).set k (-1) = fill1 n (k + 1) := by
 apply List.ext_getElem?;intro j;unfold fill1;rw [List.getElem?_set];by_cases e : k = j
 · subst e;rw [if_pos rfl, if_pos (by simp; omega), List.getElem?_append_left (by simp)];simp
 · rw [if_neg e];rcases Nat.lt_or_ge j k with hj | hj
   · rw [List.getElem?_append_left (by simpa using hj), List.getElem?_append_left (by simp; omega)];simp [hj, show j < k + 1 by omega]
   · rw [List.getElem?_append_right (by simpa using hj), List.getElem?_append_right (by simp; omega)];simp only [List.length_replicate];rw [List.getElem?_replicate, List.getElem?_replicate];by_cases h2 : j < n
     · rw [if_pos (by omega), if_pos (by omega)]
     · rw [if_neg (by omega), if_neg (by omega)]
theorem fill1_full (n : Nat) : fill1 n n = List.replicate n (-1) := by simp [fill1]
theorem NS.made (w : World) (n : Nat) (hn : n ≤ 1000000) : NS w (w.alloc (.cells (madeCells #[.int .i64 0] n) 3)) (.slice (some ⟨w.heap.size, 0, none⟩) n n) (fill1 n 0) := by
 have ho := World.ownsRow_lit (base := w.heap.size) (e := 3) (size := 1) w (madeCells #[.int .i64 0] n) n (Nat.le_refl _) (by unfold maxLen; omega) (by simp [madeCells]);rw [toList_madeCells_one] at ho;refine ⟨?_, below_alloc w _⟩;rw [fill1_len n 0 (Nat.zero_le _)];have e : (fill1 n 0).map (Value.int .i64) = List.replicate n (.int .i64 0) := by unfold fill1; simp
 rw [e]; exact ho
def FiI (n : Nat) (w1 : World) (fb g : Nat) (iv : Value) (wr : World) : Prop :=
 ∃ k : Nat, k + g = n ∧ iv = .int .i64 (k : Int) ∧ NS w1 wr (.slice (some ⟨fb, 0, none⟩) n n) (fill1 n k)
def QR (U : Nat) (wr : World) (v : Value) (Q : List Int) : Prop := wr.ownsRow U 3 1 v Q.length (Q.map (Value.int .i64))
structure BS (MV : List Mv) (goal n : Nat) (LL : List (List Int)) (w1 : World) (B U fb gb : Nat) (SL : List Value) (F Q : List Int) (i : Nat) (part : List Int) (qv : Value) (wr : World) : Prop where
 bi : BI MV goal n F Q i part
 far : NS w1 wr (.slice (some ⟨fb, 0, none⟩) n n) F
 que : QR U wr qv Q
 bk : BK B wr (.slice (some ⟨gb, 0, none⟩) n n) SL LL
 il : i ≤ Q.length
 us : U ≤ wr.heap.size
def QuI (MV : List Mv) (goal n : Nat) (LL : List (List Int)) (w1 : World) (B U fb gb : Nat) (SL : List Value) (g : Nat) (iv qv : Value) (wr : World) : Prop :=
 ∃ (i : Nat) (F Q : List Int), i + g = n ∧ iv = .int .i64 (i : Int) ∧ BS MV goal n LL w1 B U fb gb SL F Q i [] qv wr
def Qu2 (MV : List Mv) (goal n : Nat) (LL : List (List Int)) (w1 : World) (B U fb gb : Nat) (SL : List Value) (i : Nat) (c : Int) (s : List Int) (g : Nat) (jv qv : Value) (wr : World) : Prop :=
 ∃ (j : Nat) (F Q : List Int), j + g = s.length ∧ jv = .int .i64 (j : Int) ∧ Q[i]? = some c ∧ BS MV goal n LL w1 B U fb gb SL F Q i (s.take j) qv wr
theorem BS.lower {MV : List Mv} {goal n : Nat} {LL : List (List Int)} {w1 : World} {B U fb gb : Nat} {SL : List Value} {F Q : List Int} {i : Nat} {part : List Int} {qv : Value} {wr w' : World} (h : BS MV goal n LL w1 B U fb gb SL F Q i part qv wr) (hn : mvOk MV n)
 (hU : (∀ g, (Value.slice (some ⟨gb, 0, none⟩) n n).ownBlock = some g → B ≤ g ∧ g < U) ∧ ∀ (k : Nat) (x : Value) (g : Nat), SL[k]? = some x → x.ownBlock = some g → B ≤ g ∧ g < U) (hfb : fb < B) (hBU : B ≤ U) (hw1 : w1.heap.size ≤ fb)
 {c : Int} (hc : Q[i]? = some c) {x : Mv} (hx : x ∈ MV) (ht : x.t = c) (hneg : fd F x.f < 0) {o : Obj} {v' : Value}
 (ho : w'.ownsRow U 3 1 v' (Q.length + 1) (Q.map (Value.int .i64) ++ [.int .i64 x.f])) (hg : ((wr.setCell ⟨fb, x.f.toNat, none⟩ (.int .i64 (fd F c + 1))).alloc o).grownBy w' qv.ownBlock) :
 BS MV goal n LL w1 B U fb gb SL (F.set x.f.toNat (fd F c + 1)) (Q ++ [x.f]) i (part ++ [x.f]) v' w' := by
 have h1 := h.bi.pred hc hx ht hn;rw [if_pos hneg, if_pos hneg] at h1;have hset : wr.grownBy (wr.setCell ⟨fb, x.f.toNat, none⟩ (.int .i64 (fd F c + 1))) (some fb) := Lib.grownBy_setB (grown_refl wr (some fb)) x.f.toNat _;have hf := h.far.set hw1 x.f.toNat (fd F c + 1);have hfa := hf.below (below_alloc _ o);have hq : ∀ g, qv.ownBlock = some g → U ≤ g := fun g hg => (h.que.lt g hg).1
 refine ⟨h1, hfa.kept hg (.inr fun e => ?_) (fun k hk => ?_), ?_, ?_, by rw [List.length_append]; have := h.il; omega, ?_⟩
 · have := hq fb e.symm; omega
 · have := hq k hk; omega
 · unfold QR; rw [List.length_append, List.map_append]; exact ho
 · have h2 := h.bk.far hU hset (fun g hg => by cases hg; exact .inl hfb);exact (h2.below (below_alloc _ o)).far hU hg (fun g hg => .inr (hq g hg))
 · have := h.us; have := hg.size; simp at this; omega
theorem BS.same {MV : List Mv} {goal n : Nat} {LL : List (List Int)} {w1 : World} {B U fb gb : Nat} {SL : List Value} {F Q : List Int} {i : Nat} {part : List Int} {qv : Value} {wr : World} (h : BS MV goal n LL w1 B U fb gb SL F Q i part qv wr) (hn : mvOk MV n)
 {c : Int} (hc : Q[i]? = some c) {x : Mv} (hx : x ∈ MV) (ht : x.t = c) (hneg : ¬ fd F x.f < 0) : BS MV goal n LL w1 B U fb gb SL F Q i (part ++ [x.f]) qv wr := by
 have h1 := h.bi.pred hc hx ht hn;rw [if_neg hneg, if_neg hneg] at h1;exact ⟨h1, h.far, h.que, h.bk, h.il, h.us⟩
theorem QR.slice {U : Nat} {wr : World} {v : Value} {Q : List Int} (h : QR U wr v Q) : ∃ A c, v = .slice A Q.length c := by
 rcases h.2 with ⟨rfl, h0⟩ | ⟨g, cap, cur, rfl, _⟩
 · exact ⟨none, 0, by rw [h0]⟩
 · exact ⟨_, cap, rfl⟩
theorem QR.at_ {U : Nat} {wr : World} {v : Value} {Q : List Int} (h : QR U wr v Q) {i : Nat} {c : Int} (hc : Q[i]? = some c) : ∃ g cap, v = .slice (some ⟨g, 0, none⟩) Q.length cap ∧ U ≤ g ∧ g < wr.heap.size ∧ wr.cell? ⟨g, i, none⟩ = some (.int .i64 c) := by
 have hl := (List.getElem?_eq_some_iff.1 hc).1;obtain ⟨A, cap, rfl, hA⟩ := row_slice h;obtain ⟨g, rfl, h1, h2⟩ := hA (by omega);refine ⟨g, cap, rfl, h1, h2, ?_⟩;have hq := h.cells (g := g) rfl i (.int .i64 c) (by rw [List.getElem?_map, hc]; rfl);have ha : (⟨g, 0, none⟩ : Addr).add i = ⟨g, i, none⟩ := by unfold Addr.add; split <;> simp_all
 rw [ha] at hq; exact hq
theorem NS.fdc {w wr : World} {g n cap : Nat} {F : List Int} (h : NS w wr (.slice (some ⟨g, 0, none⟩) n cap) F) (hl : F.length = n) (p : Nat) (hp : p < n) :
 wr.cell? ⟨g, p, none⟩ = some (.int .i64 (fd F p)) ∧ wr.frozen? ⟨g, p, none⟩ = false := by
 have hpl : p < F.length := by rw [hl]; exact hp
 obtain ⟨h1, h2⟩ := h.cells p hpl;have e : fd F p = F[p] := by unfold fd; simp [hpl]
 exact ⟨by rw [e]; exact h1, h2⟩
end
section
open Go.RowKit

def bigT (t : Tr) : Bool := decide (12 < t.i.length) || (decide (12 < t.o.length) || decide (100 < t.lb.size))
end
end Go.Proofs.YtkhmngljpfibcaaGreatDoor
