/- fire of reference 24: what a call returns. Fire of reference 21: what a call returns. Run of reference 21: what a call returns. closed of reference 24: what a call returns. Check of reference 24: what a call returns. IndexFunc and ContainsFunc on lists of lists; none, fits of the statements: what a call returns. verdict: marking, markings, enabled: what a call returns. verdict: fire, most, one, index: what a call returns. petri.fire, Fire: what a call returns. The tree of reference 24 in memory. Fault, HasOmega, SameSpace of reference 24: what a call returns. SameSpace of reference 24: what a call returns. -/
import Derived.Test.YtpiihmbeedlpkaaGreatDoorPUu
import Derived.Test.YtpiihmbeedlpkaaGreatDoorPDn
import Derived.Test.YtpiihmbeedlpkaaGreatDoorPDe
import Derived.Test.YtpiihmbeedlpkaaGreatDoorPHd
import Derived.Test.YtpiihmbeedlpkaaGreatDoorPCk
import Derived.Test.YtpiihmbeedlpkaaGreatDoorPCp
import Derived.Deep.OwnRows
import Derived.Laws.StructEq
namespace Go.Proofs.YtpiihmbeedlpkaaGreatDoor
set_option maxRecDepth 100000
set_option maxHeartbeats 12800000
open Go.Lib (hid)
section
open Go.RowKit

theorem pls_take {l : List Int} {n : Nat} (h : plsOk l n) (k : Nat) : plsOk (l.take k) n :=
 ⟨fun p hp => h.1 p (List.mem_of_mem_take hp), List.Sublist.nodup (List.take_sublist k l) h.2⟩
theorem incs_at {M l : List Int} {k p : Nat} (hl : plsOk l M.length) (hk : k < l.length) (hp : l[k] = (p : Int)) (hpm : p < M.length) :
 ∃ h : p < (incs M (l.take k)).length, (incs M (l.take k))[p] = M.getD p 0 := by
 refine ⟨by rw [incs_len]; exact hpm, ?_⟩;have hg := incs_get M (l.take k) (pls_take hl k) p;have hn : (p : Int) ∉ l.take k := by
  intro hm;obtain ⟨j, hj, e⟩ := List.getElem_of_mem hm;rw [List.getElem_take] at e;rw [List.length_take] at hj;have h2 := hl.2;have h3 : List.Pairwise (· ≠ ·) l := h2;rw [List.pairwise_iff_getElem] at h3;exact h3 j k (by omega) hk (by omega) (by rw [e, hp])
 rw [if_neg hn] at hg;have e : (incs M (l.take k)).getD p 0 = (incs M (l.take k))[p]'(by rw [incs_len]; exact hpm) := by simp [incs_len, hpm]
 rw [← e, hg]
end
section
open Go.RowKit

def fire21 (N : Nt) (M : List Int) (t : Int) : List Int × Int := if mkB N M then fireV N M t else ([], 1)
def FvPo (r : List Int × Int) (w : World) (e : Ending) (w' : World) : Prop := if r.2 = 0 then ∃ v, e = .returned (.tuple #[v, .int .i64 0]) ∧ NS w w' v r.1 else e = .returned (.tuple #[.slice none 0 0, .int .i64 r.2]) ∧ Below w.heap.size w w'
theorem FvPo.no {r : List Int × Int} {w w' : World} {e : Ending} {k : Int} (h : r = ([], k)) (hk : k ≠ 0) (he : e = .returned (.tuple #[.slice none 0 0, .int .i64 k])) (hb : Below w.heap.size w w') : FvPo r w e w' := by
 subst h; unfold FvPo; rw [if_neg hk]; exact ⟨he, hb⟩
theorem FvPo.yes {r : List Int × Int} {w w' : World} {e : Ending} {L : List Int} {v : Value} (h : r = (L, 0)) (he : e = .returned (.tuple #[v, .int .i64 0])) (hs : NS w w' v L) : FvPo r w e w' := by
 subst h; unfold FvPo; rw [if_pos rfl]; exact ⟨v, he, hs⟩
theorem FvPo.parts {r : List Int × Int} {w w' : World} {e : Ending} (h : FvPo r w e w') : (r.2 = 0 ∧ ∃ v, e = .returned (.tuple #[v, .int .i64 0]) ∧ NS w w' v r.1) ∨ (r.2 ≠ 0 ∧ e = .returned (.tuple #[.slice none 0 0, .int .i64 r.2]) ∧ Below w.heap.size w w') := by
 unfold FvPo at h;by_cases h0 : r.2 = 0
 · rw [if_pos h0] at h; exact .inl ⟨h0, h⟩
 · rw [if_neg h0] at h; exact .inr ⟨h0, h⟩
theorem decs_at {M l : List Int} {k p : Nat} (hl : plsOk l M.length) (hk : k < l.length) (hp : l[k] = (p : Int)) (hpm : p < M.length) :
 ∃ h : p < (decs M (l.take k)).length, (decs M (l.take k))[p] = M.getD p 0 := by
 refine ⟨by rw [decs_len]; exact hpm, ?_⟩;have hg := decs_get M (l.take k) (pls_take hl k) p;have hn : (p : Int) ∉ l.take k := by
  intro hm;obtain ⟨j, hj, e⟩ := List.getElem_of_mem hm;rw [List.getElem_take] at e;rw [List.length_take] at hj;have h3 : List.Pairwise (· ≠ ·) l := hl.2;rw [List.pairwise_iff_getElem] at h3;exact h3 j k (by omega) hk (by omega) (by rw [e, hp])
 rw [if_neg hn] at hg;have e : (decs M (l.take k)).getD p 0 = (decs M (l.take k))[p]'(by rw [decs_len]; exact hpm) := by simp [decs_len, hpm]
 rw [← e, hg]
theorem decs_nonneg {t : Tr} {M : List Int} (hl : plsOk t.i M.length) (hM : nonneg M) (hc : canT t M = true) : nonneg (decs M t.i) := by
 intro p;rw [decs_get M t.i hl];have h1 := hM p;split
 · rename_i hp;have := canT_get hc p hp;unfold dec1; split <;> omega
 · exact h1
theorem bad_big {R : List Int} (h : nonneg R) : R.any badK = bigM R := by
 unfold bigM;rw [Bool.eq_iff_iff, List.any_eq_true, List.any_eq_true];constructor
 · rintro ⟨x, hx, hb⟩;obtain ⟨p, hp, rfl⟩ := List.getElem_of_mem hx;have h1 := h p;have e : R.getD p 0 = R[p] := by simp [hp]
   rw [e] at h1;refine ⟨_, hx, ?_⟩;unfold badK at hb;simp only [Bool.or_eq_true, decide_eq_true_eq] at hb ⊢;omega
 · rintro ⟨x, hx, hb⟩;exact ⟨x, hx, by unfold badK; rw [hb]; simp⟩
end
section
open Go.RowKit

theorem fv_yes {P : Program} {f : FuncId} {args : Array Value} {w : World} {r : List Int × Int} (h : Calls P f args w (FvPo r w)) (h0 : r.2 = 0) : Calls P f args w fun e w' => ∃ v, e = .returned (.tuple #[v, .int .i64 0]) ∧ NS w w' v r.1 :=
 h.mono fun e w' h1 => by unfold FvPo at h1; rw [if_pos h0] at h1; exact h1
theorem fv_no {P : Program} {f : FuncId} {args : Array Value} {w : World} {r : List Int × Int} (h : Calls P f args w (FvPo r w)) (h0 : r.2 ≠ 0) : Calls P f args w fun e w' => e = .returned (.tuple #[.slice none 0 0, .int .i64 r.2]) ∧ Below w.heap.size w w' :=
 h.mono fun e w' h1 => by unfold FvPo at h1; rw [if_neg h0] at h1; exact h1
theorem fire_mk {N : Nt} {M : List Int} {t : Int} (hm : mkB N M = true) (h : (fireV N M t).2 = 0) : mkB N (fireV N M t).1 = true := by
 have hml := mk_len hm;have hok := netOk_of (mk_nt hm) hml;have hisM := mkM hm;by_cases ht : t < 0
 · simp [fireV, ht] at h
 cases hx : N.tr[t.toNat]? with
 | none => simp [fireV, ht, hx] at h
 | some x =>
  have e : fireV N M t = if canT x M then (if bigM (fireT x M) then ([], 5) else (fireT x M, 0)) else ([], 12) := by
   unfold fireV; rw [if_neg ht, hx]
  rw [e] at h ⊢;by_cases hc : canT x M = true
  · rw [if_pos hc] at h ⊢;by_cases hb : bigM (fireT x M) = true
    · rw [if_pos hb] at h; simp at h
    · rw [if_neg hb];have hnn : nonneg (fireT x M) := fun p => by
       obtain ⟨e1, e2⟩ := fire_real (t := x) (x := M) (hok _ x hx) (fun p => (hisM p).1) hc p;rw [e1]; exact e2
      show mkB N (fireT x M) = true;unfold mkB;rw [mk_nt hm, fireT_len, decide_eq_true hml, bad_big hnn];simpa using hb
  · rw [if_neg hc] at h; simp at h
theorem runV_step {N : Nt} {M : List Int} {k : Nat} {t : Int} {l : List Int} (h : (fireV N M t).2 = 0) : runV N M k (t :: l) = runV N (fireV N M t).1 (k + 1) l := by
 rw [runV, if_pos h]
theorem runV_stop {N : Nt} {M : List Int} {k : Nat} {t : Int} {l : List Int} (h : (fireV N M t).2 ≠ 0) : runV N M k (t :: l) = ([], k, (fireV N M t).2) := by
 rw [runV, if_neg h]
def run21 (N : Nt) (M l : List Int) : List Int × Nat × Int := if mkB N M then (if 1000 < l.length then ([], 0, 5) else runV N M 0 l) else ([], 0, 1)
end
section
open Go.RowKit

def okT (N : Nt) (LL : List (List Int)) (s : List Int) (t : Nat) : Bool := match N.tr[t]? with
 | some x => !canT x s || (decide ((fireV N s (t : Int)).2 = 0) && decide ((fireV N s (t : Int)).1 ∈ LL))
 | none => true
def okS (N : Nt) (LL : List (List Int)) (k : Nat) (s : List Int) : Bool := (List.range k).all (okT N LL s)
def closedB (N : Nt) (M : List Int) (LL : List (List Int)) : Bool := decide (M ∈ LL) && (LL.all (mkB N) && LL.all (okS N LL N.tr.length))
end
section
open Go.RowKit

structure Ct where
 cl : Int
 n : Int
 run : List Int
 pump : List Int
 marks : List (List Int)
def endB (x y : List Int) (k : Int) : Bool := atMost x y && decide (x.getD k.toNat 0 < y.getD k.toNat 0)
def pumpB (N : Nt) (M : List Int) (C : Ct) : Bool := decide ((run21 N M C.run).2.2 = 0) && (decide ((run21 N (run21 N M C.run).1 C.pump).2.2 = 0) && endB (run21 N M C.run).1 (run21 N (run21 N M C.run).1 C.pump).1 C.n)
def badC (N : Nt) (C : Ct) : Bool := decide (C.cl ≠ 6) || (decide (C.pump.length = 0) || (decide (C.n < 0) || decide (N.pl ≤ C.n)))
def chkB (N : Nt) (M : List Int) (C : Ct) : Bool := mkB N M && (if C.cl = 5 then closedB N M C.marks else !badC N C && pumpB N M C)
theorem runV_mk {N : Nt} : ∀ (l : List Int) (M : List Int) (k : Nat), mkB N M = true → (runV N M k l).2.2 = 0 → mkB N (runV N M k l).1 = true := by
 intro l
 induction l with
 | nil => intro M k hm _; exact hm
 | cons t l ih =>
  intro M k hm h;by_cases h0 : (fireV N M t).2 = 0
  · rw [runV_step h0] at h ⊢; exact ih _ _ (fire_mk hm h0) h
  · rw [runV_stop h0] at h; exact absurd h h0
theorem run21_mk {N : Nt} {M l : List Int} (h : (run21 N M l).2.2 = 0) : mkB N (run21 N M l).1 = true := by
 unfold run21 at h ⊢;by_cases hm : mkB N M = true
 · rw [if_pos hm] at h ⊢;by_cases hl : 1000 < l.length
   · rw [if_pos hl] at h; simp at h
   · rw [if_neg hl] at h ⊢; exact runV_mk l M 0 hm h
 · rw [if_neg hm] at h; simp at h
end
section
open Go.RowKit

def lidx (p : List Int → Bool) (L : List (List Int)) : Int := if L.findIdx p = L.length then -1 else ((L.findIdx p : Nat) : Int)
theorem lidx_at {p : List Int → Bool} {L : List (List Int)} {k : Nat} (h : k < L.length) (hp : p L[k] = true) (hno : ∀ s ∈ L.take k, p s = false) : lidx p L = (k : Int) := by
 have e : L.findIdx p = k := by
  rw [List.findIdx_eq h];exact ⟨hp, fun j hj => hno _ (by rw [List.mem_take_iff_getElem]; exact ⟨j, by omega, rfl⟩)⟩
 unfold lidx;rw [e, if_neg (by omega)]
theorem lidx_no {p : List Int → Bool} {L : List (List Int)} (h : ∀ s ∈ L, p s = false) : lidx p L = -1 := by
 unfold lidx;rw [if_pos (List.findIdx_eq_length_of_false h)]
theorem lidx_any (p : List Int → Bool) (L : List (List Int)) : decide (0 ≤ lidx p L) = L.any p := by
 rw [Bool.eq_iff_iff, decide_eq_true_eq, List.any_eq_true];constructor
 · intro h;apply Classical.byContradiction;intro hno;rw [lidx_no (fun s hs => by
    cases hv : p s with
    | false => rfl
    | true => exact absurd ⟨s, hs, hv⟩ hno)] at h
   omega
 · rintro ⟨s, hs, hp⟩;have := List.findIdx_lt_length_of_exists ⟨s, hs, hp⟩;unfold lidx;rw [if_neg (by omega)]; omega
def longM (s : List Int) : Bool := decide (40 < s.length)
def fitB (C : Ct) : Bool := decide (C.run.length ≤ 1000) && (decide (C.pump.length ≤ 1000) && (decide (C.marks.length ≤ 300) && !C.marks.any longM))
end
section
open Go.RowKit

def badX (ext : Bool) (k : Int) : Bool := (decide (k < 0) || decide (100 < k)) && !(ext && decide (k = -1))
def mkX (pl : Int) (ext : Bool) (m : List Int) : Bool := decide ((m.length : Int) = pl) && !(m.any (badX ext))
def mksX (pl : Int) (ext : Bool) (L : List (List Int)) : Bool := L.all (mkX pl ext)
end
section
open Go.RowKit

theorem mk_ints (n : Nat) (hn : n ≤ 1000000) (w : World) : (Instr.makeSlice 34 (.int .i64 (n : Int)) (.int .i64 (n : Int))).run Tryz.prog w = .ok (.slice (some ⟨w.heap.size, 0, none⟩) n n) (w.alloc (.cells (madeCells #[.int .i64 0] n) 3)) := run_make_row' 34 3 (.int .i64 0) 8 Tryz.underlying34 intInfo rfl .i64 .i64 n (by omega) (by omega) w
def oneM (pl : Nat) (p : Nat) : List Int := (List.replicate pl (0 : Int)).set p 1
theorem oneM_len (pl p : Nat) : (oneM pl p).length = pl := by simp [oneM]
theorem NS.one1 (w : World) (n p : Nat) (hn : n ≤ 1000000) : NS w (w.alloc (.cells ((madeCells #[.int .i64 0] n).setIfInBounds p (.int .i64 1)) 3)) (.slice (some ⟨w.heap.size, 0, none⟩) n n) (oneM n p) := by
 have e : ((madeCells #[Value.int .i64 0] n).setIfInBounds p (.int .i64 1)).toList = (oneM n p).map (Value.int .i64) := by
  rw [Array.toList_setIfInBounds, toList_madeCells_one];unfold oneM;rw [List.map_set, List.map_replicate]
 have ho := World.ownsRow_lit (base := w.heap.size) (e := 3) (size := 1) w ((madeCells #[.int .i64 0] n).setIfInBounds p (.int .i64 1)) n (Nat.le_refl _) (by unfold maxLen; omega) (by simp [madeCells]);rw [e] at ho;exact ⟨by rw [oneM_len]; exact ho, below_alloc w _⟩
def isL (X s : List Int) : Bool := decide (s = X)
end
section
open Go.RowKit

theorem pfire_any (N : Nt) (A : Option Addr) (n c : Nat) (Am : Option Addr) (m cm : Nat) (M : List Int) (tt : Int) (w : World) (h : NtIn w A N) (hn : N.tr.length = n) (hM : ZIn w Am M) (hm : M.length = m) (hmk : mkB N M = true) :
 Calls Tryz.prog 83 #[.agg #[.int .i64 N.pl, .slice A n c, .int .i64 N.src, .int .i64 N.snk], .slice Am m cm, .int .i64 tt] w (FvPo (fireV N M tt) w) := by
 have HB := hid (below_alloc w (.cells #[.int .i64 N.pl, .slice A n c, .int .i64 N.src, .int .i64 N.snk] 30));have HM := hid hm;have HNl := hid hn;have HMkt := hid hmk;have hsm := nt_small (mk_nt hmk);have hml : (m : Int) = N.pl := by rw [← hm]; exact mk_len hmk
 have hm0 : 0 < m := by omega
 have hm40 : m ≤ 40 := by omega
 have hn60 : n ≤ 60 := by omega
 by_cases ht0 : tt < 0
 · have HV := hid (show fireV N M tt = ([], 2) by unfold fireV; rw [if_pos ht0]);clear h hn hM hm hmk hsm hml;go_enter Tryz.func83, Tryz.ntmps83;go_wp2_with fail;go_ret2;exact FvPo.no HV.out (by decide) rfl HB.out
 by_cases ht1 : (n : Int) ≤ tt
 · have HV := hid (show fireV N M tt = ([], 2) by unfold fireV; rw [if_neg ht0, List.getElem?_eq_none (by omega)]);clear h hn hM hm hmk hsm ht0 hml;have q3 : decide (tt < 0) = false := by simp; omega
   go_enter Tryz.func83, Tryz.ntmps83;go_wp2_with fail;go_ret2;exact FvPo.no HV.out (by decide) rfl HB.out
 obtain ⟨t, rfl⟩ := Int.eq_ofNat_of_zero_le (show 0 ≤ tt by omega);have htn : t < n := by omega
 have htl : t < N.tr.length := by omega
 have HTg := hid (List.getElem?_eq_getElem htl);obtain ⟨ad, rfl, hpa, hTr⟩ := (h.below HB.out).1 t htl;have HInT := hid ((nt_inM (mk_nt hmk) (m := m) hml) _ (List.getElem_mem htl));have hok := (netOk_of (mk_nt hmk) (m := m) hml) t _ HTg.out;have HisM := hid (mkM hmk);have HNum := hid (mk_nums hmk);have HFv := hid (show fireV N M (t : Int) = if canT N.tr[t] M then (if bigM (fireT N.tr[t] M) then ([], 5) else (fireT N.tr[t] M, 0)) else ([], 12) by
  unfold fireV;rw [if_neg (by omega), Int.toNat_natCast, HTg.out])
 have HNR := hid (show canT N.tr[t] M = true → nonneg (fireT N.tr[t] M) from fun hc p => by
  obtain ⟨e1, e2⟩ := fire_real (t := N.tr[t]) (x := M) (by rw [hm]; exact hok) (fun p => (HisM.out p).1) hc p;rw [e1]; exact e2)
 have HN1 := hid (fun (hc : canT N.tr[t] M = true) => decs_nonneg (t := N.tr[t]) (M := M) (by rw [hm]; exact hok.1) (fun p => (HisM.out p).1) hc);have HNn := hid (show nonneg M from fun p => (HisM.out p).1);have HR := hid (show fireT N.tr[t] M = incs (decs M N.tr[t].i) N.tr[t].o from rfl);have HOk := hid hok;clear ht0 ht1 HTg hsm hok;generalize N.tr[t] = T at *;obtain ⟨lb, li, lo⟩ := T;generalize fireT ⟨lb, li, lo⟩ M = R at HR HFv HNR;obtain ⟨q0, ⟨u1, q1, s1⟩, u2, q2, s2⟩ := hTr;obtain ⟨Ai, ni, ci, rfl, zi, hi1, hi2, hi3⟩ := s1;obtain ⟨Ao, no, co, rfl, zo, ho1, ho2, ho3⟩ := s2;simp only at hi1 ho1 zi zo q0 q1 q2 HOk HInT HR HN1;have HBx := hid (below_alloc (w.alloc (.cells #[.int .i64 N.pl, .slice (some ad) n c, .int .i64 N.src, .int .i64 N.snk] 30)) (.cells #[.string lb, .slice Ai ni ci, .slice Ao no co] 42));have hTn := TB.new (w.alloc (.cells #[.int .i64 N.pl, .slice (some ad) n c, .int .i64 N.src, .int .i64 N.snk] 30)) lb Ai ni ci Ao no co;rw [World.size_alloc] at hTn;have HT0 := hid hTn;have HB2 := hid (below_then HB.out HBx.out);have HZi := hid (zi.below HBx.out);have HZo := hid (zo.below HBx.out);have HMz := hid (hM.below HB2.out);have Hli := hid hi1;have Hlo := hid ho1;have HOkli := hid HOk.out.1;have HOklo := hid HOk.out.2;have HLp := hid hm;have HBd := hid (show bnd 1000 M from fun x hx => by have := HNum.out x hx; omega);have hni : ni ≤ 1000 := by have := pls_len HOk.out.1; simp only at this; rw [← hi1]; omega
 have hno : no ≤ 1000 := by have := pls_len HOk.out.2; simp only at this; rw [← ho1]; omega
 have HEn := hid (enabled_petri lb Ai Ao Am ni ci no co m cm li lo M _ HZi.out hi1 (by omega) HMz.out hm HInT.out.1);clear hml h hn hM hm hmk hTn zi zo hi1 ho1 hi2 ho2;have ht0 : (0 : Int) ≤ (t : Int) := by omega
 have ht1 : (t : Int) < (n : Int) := by omega
 have q3 : decide ((n : Int) ≤ (t : Int)) = false := by simp; omega
 go_enter Tryz.func83, Tryz.ntmps83;go_wp2_with fail;generalize (w.alloc _).alloc _ = wb at *;cases hcan : canT ⟨lb, li, lo⟩ M with
 | false =>
  rw [hcan] at HEn;have HV := hid (show fireV N M (t : Int) = ([], 12) by rw [HFv.out, hcan]; rfl);((with_reducible refine HEn.out.mono ?_); rintro e w3 ⟨rfl, hb3⟩)
  have HB3 := hid (below_then HB2.out hb3);go_wp2_with fail;go_ret2;exact FvPo.no HV.out (by decide) rfl HB3.out
 | true =>
  rw [hcan] at HEn;have HV := hid (show fireV N M (t : Int) = if bigM R then ([], 5) else (R, 0) by rw [HFv.out, hcan]; rfl);have HN2 := hid (HN1.out hcan);clear hcan HFv HNR HN1 HInT;((with_reducible refine HEn.out.mono ?_); rintro e w0 ⟨rfl, hb3⟩)
  have HB3 := hid (below_then HB2.out hb3);have HT := hid (HT0.out.below hb3);have HZli := hid (HZi.out.below hb3);have HZlo := hid (HZo.out.below hb3);have HCl := hid (clone_any Am m cm M w0 (HMz.out.below hb3) HM.out (by omega));clear hb3 HT0 HZi HZo HMz HEn HB2 HBx HB q0 q1 q2;go_wp2_with fail;((with_reducible refine HCl.out.mono ?_); rintro e w1 ⟨v, rfl, hS1⟩)
  obtain ⟨gb, cap, rfl, hgb, hgl⟩ := hS1.row (by rw [HM.out]; exact hm0);rw [HM.out] at hS1 ⊢;have HGb := hid hgb;have HS1 := hid hS1;obtain ⟨tc0, tc1, tc2⟩ := HT.out.below hS1.2;clear hS1 HCl hgb;go_wp2_with fail;clear tc0 tc1 tc2;go_loopg [37] (ni) (fun g iv wr => ∃ k : Nat, k + g = ni ∧ iv = .int .i64 k ∧ NS w0 wr (.slice (some ⟨gb, 0, none⟩) m cap) (decs M (li.take k)));case atStart => exact ⟨0, by omega, rfl, by rw [List.take_zero]; exact HS1.out⟩
  case round =>
   obtain ⟨k, hk, rfl, hS⟩ := hrel;have HK := hid hk;have HS := hid hS;have hle : k ≤ ni := by omega
   have HZr := hid (HZli.out.below hS.2);have HTr := hid (HT.out.below hS.2);have hgr : gb < wr.heap.size := (hS.1.lt gb rfl).2;clear hk hS;obtain ⟨tc0, tc1, tc2⟩ := HTr.out;by_cases hlt : k < ni
   · have hlt' : k < li.length := by rw [Hli.out]; exact hlt
     obtain ⟨ap, rfl, hpa, q0⟩ := HZr.out k hlt';obtain ⟨p, hp⟩ := Int.eq_ofNat_of_zero_le (HOkli.out.1 _ (List.getElem_mem hlt')).1;have hpm : p < m := by have := (HOkli.out.1 _ (List.getElem_mem hlt')).2; omega
     obtain ⟨hpl, hrd, hx1, hx2⟩ := decs_round M li k p hlt' hp (by rw [HLp.out]; exact hpm) 1000 (by omega) HBd.out;obtain ⟨_, hat⟩ := decs_at (by rw [HLp.out]; exact HOkli.out) hlt' hp (by rw [HLp.out]; exact hpm);have hxn : 0 ≤ (decs M (li.take k))[p] := by rw [hat]; exact HNn.out p
     have h1e : dec1 (decs M (li.take k))[p] = (decs M (li.take k))[p] - 1 := if_neg (by omega);rw [h1e] at hrd;rw [hp] at q0;have HRd := hid hrd;have HC := hid (HS.out.cells p hpl);generalize (decs M (li.take k))[p] = x at *;generalize decs M (li.take k) = D at *;clear hrd hp hlt' hpl hat h1e;obtain ⟨r0, r1⟩ := HC.out;have hp0 : (0 : Int) ≤ (p : Int) := by omega
     have hp9 : (p : Int) < (m : Int) := by omega
     go_wp2_with fail;go_roundg (gk - 1);case measure => have := HK.out; omega
     case rel => exact ⟨k + 1, by have := HK.out; omega, by go_num, by rw [HRd.out]; exact HS.out.set HGb.out p _⟩
   · have HD := hid (show decs M (li.take k) = decs M li by rw [List.take_of_length_le (by rw [Hli.out]; omega)]);rw [HD.out] at HS;clear HD;have HLp1 := hid (show (decs M li).length = m by rw [decs_len]; exact HLp.out);have HBd1 := hid (show bnd (1000 + (ni : Int)) (decs M li) by have := decs_bnd li 1000 M (by omega) HBd.out; rw [Hli.out] at this; exact this);go_wp2_with fail;clear HLp HBd HK hle hgr HTr HZr HNn tc0 tc1 tc2 hlt HS1;have HLp := hid HLp1.out;have HBd := hid HBd1.out;have HNn := hid HN2.out;clear HLp1 HBd1 HN2;generalize decs M li = M1 at *;obtain ⟨go, rfl⟩ : ∃ go, go = gk := ⟨_, rfl⟩;go_loopg [51] (no) (fun g iv wr => ∃ k : Nat, k + g = no ∧ iv = .int .i64 k ∧ NS w0 wr (.slice (some ⟨gb, 0, none⟩) m cap) (incs M1 (lo.take k)));case atStart => exact ⟨0, by omega, rfl, by rw [List.take_zero]; exact HS.out⟩
     case round =>
      obtain ⟨k, hk, rfl, hS⟩ := hrel;have HK := hid hk;have HS := hid hS;have hle : k ≤ no := by omega
      have HZr := hid (HZlo.out.below hS.2);have HTr := hid (HT.out.below hS.2);have hgr : gb < wr.heap.size := (hS.1.lt gb rfl).2;clear hk hS;obtain ⟨tc0, tc1, tc2⟩ := HTr.out;by_cases hlt : k < no
      · have hlt' : k < lo.length := by rw [Hlo.out]; exact hlt
        obtain ⟨ap, rfl, hpa, q0⟩ := HZr.out k hlt';obtain ⟨p, hp⟩ := Int.eq_ofNat_of_zero_le (HOklo.out.1 _ (List.getElem_mem hlt')).1;have hpm : p < m := by have := (HOklo.out.1 _ (List.getElem_mem hlt')).2; omega
        obtain ⟨hpl, hrd, hx1, hx2⟩ := incs_round M1 lo k p hlt' hp (by rw [HLp.out]; exact hpm) (1000 + ni) (by omega) HBd.out;obtain ⟨_, hat⟩ := incs_at (by rw [HLp.out]; exact HOklo.out) hlt' hp (by rw [HLp.out]; exact hpm);have hxn : 0 ≤ (incs M1 (lo.take k))[p] := by rw [hat]; exact HNn.out p
        have h1e : inc1 (incs M1 (lo.take k))[p] = (incs M1 (lo.take k))[p] + 1 := if_neg (by omega);rw [h1e] at hrd;rw [hp] at q0;have HRd := hid hrd;have HC := hid (HS.out.cells p hpl);generalize (incs M1 (lo.take k))[p] = x at *;generalize incs M1 (lo.take k) = D at *;clear hrd hp hlt' hpl hat h1e;obtain ⟨r0, r1⟩ := HC.out;have hp0 : (0 : Int) ≤ (p : Int) := by omega
        have hp9 : (p : Int) < (m : Int) := by omega
        go_wp2_with fail;go_roundg (gk - 1);case measure => have := HK.out; omega
        case rel => exact ⟨k + 1, by have := HK.out; omega, by go_num, by rw [HRd.out]; exact HS.out.set HGb.out p _⟩
      · have HFin := hid (show incs M1 (lo.take k) = R by rw [List.take_of_length_le (by rw [Hlo.out]; omega)]; exact HR.out.symm);rw [HFin.out] at HS;have HLr := hid (show R.length = m by rw [HR.out, incs_len]; exact HLp.out);have HMx := hid (max_any (some ⟨gb, 0, none⟩) m cap R wr (show ZIn wr (some ⟨gb, 0, none⟩) R by obtain ⟨A', c', e, hz, _⟩ := HS.out.zin; cases e; exact hz) HLr.out hm0 (by omega));have HBig := hid (max_big R (by rw [HLr.out]; exact hm0));cases hbig : bigM R with
        | true =>
         have q5 : decide (Lib.maxOf R ≤ 100) = false := by rw [HBig.out, hbig]; rfl
         have q6 : 100 < Lib.maxOf R := by have := of_decide_eq_false q5; omega
         rw [hbig] at HV;clear hbig q5;go_wp2_with fail;((with_reducible refine HMx.out.mono ?_); rintro e w3 ⟨rfl, hb3⟩)
         have HFn := hid (below_then HB3.out (below_then HS.out.2 hb3));go_wp2_with fail;go_ret2;exact FvPo.no HV.out (by decide) rfl HFn.out
        | false =>
         have q5 : decide (Lib.maxOf R ≤ 100) = true := by rw [HBig.out, hbig]; rfl
         have q6 : Lib.maxOf R ≤ 100 := of_decide_eq_true q5;rw [hbig] at HV;clear hbig q5;go_wp2_with fail;((with_reducible refine HMx.out.mono ?_); rintro e w3 ⟨rfl, hb3⟩)
         have HSf := hid (NS.up HB3.out (HS.out.below hb3));go_wp2_with fail;go_ret2;exact FvPo.yes HV.out rfl HSf.out
end
section
open Go.RowKit

theorem OMv.app {w0 wr w' : World} {v : Value} {MV : List Mv} (h : OMv w0 wr v MV) {o : Obj} {b k n : Nat} {e : TypeId} {x : Value} {xs : List Value} (hr : wr.ownsRow b e k x n xs) (h1 : 71 ≠ e) (hg : (wr.alloc o).grownBy w' x.ownBlock) (hbase : w0.heap.size ≤ b) : OMv w0 w' v MV :=
 ⟨(h.1.alloc o).kept hg (own_apart (h.1.alloc o) (hr.alloc o) h1), (h.2.alloc h.2.size o).grown hg (by have := h.2.size; simp; omega) (fun k hk => Nat.le_trans hbase (hr.lt k hk).1)⟩
end
section
open Go.RowKit

def omB (ST : List (List Int)) : Bool := ST.any hasO
instance : DecidableEq Mv := fun a b => by
 cases a; cases b;simp only [Mv.mk.injEq]
 infer_instance
end
section
open Go.RowKit

theorem mv_cells {w : World} {A : Option Addr} {MV : List Mv} (h : Rd mvC 3 w A MV) {k : Nat} (hk : k < MV.length) :
 ∃ ad, A = some ad ∧ (ad.add (k * 3)).block < w.heap.size ∧ w.cell? (ad.add (k * 3)) = some (.int .i64 MV[k].f) ∧ w.cell? ⟨(ad.add (k * 3)).block, (ad.add (k * 3)).off + 1, none⟩ = some (.int .i64 MV[k].t) ∧ w.cell? ⟨(ad.add (k * 3)).block, (ad.add (k * 3)).off + 1 + 1, none⟩ = some (.int .i64 MV[k].s) := by
 obtain ⟨ad, e, h1, h2⟩ := h k hk;refine ⟨ad, e, h1, h2 0 _ (by omega) rfl, ?_, ?_⟩
 · have := h2 1 _ (by omega) rfl;rwa [add_at _ _ _ (by omega)] at this
 · have := h2 2 _ (by omega) rfl;rwa [add_at _ _ _ (by omega)] at this
end
end Go.Proofs.YtpiihmbeedlpkaaGreatDoor
