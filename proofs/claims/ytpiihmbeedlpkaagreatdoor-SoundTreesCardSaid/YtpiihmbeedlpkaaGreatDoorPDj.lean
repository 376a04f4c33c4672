/- cover.grow: what a call returns. -/
import Derived.Test.YtpiihmbeedlpkaaGreatDoorPUu
import Derived.Test.YtpiihmbeedlpkaaGreatDoorPDi
import Derived.Test.YtpiihmbeedlpkaaGreatDoorPCp
import Derived.Test.YtpiihmbeedlpkaaGreatDoorPDd
namespace Go.Proofs.YtpiihmbeedlpkaaGreatDoor
set_option maxRecDepth 100000
set_option maxHeartbeats 12800000
open Go.Lib (hid)
open Go.RowKit

def contI (N : Nt) (most i k : Nat) (T : TS) : Option TS := match stepI N most i (N.tr.length + 1 - k) k T with
 | some T' => growF N most (20002 - (i + 1)) (i + 1) T'
 | none => none
def contF (N : Nt) (most i : Nat) (T : TS) : Option TS := growF N most (20002 - i) i T
theorem contI_end {N : Nt} {most i k : Nat} {T : TS} (h : N.tr.length ≤ k) : contI N most i k T = contF N most (i + 1) T := by
 unfold contI contF;have : stepI N most i (N.tr.length + 1 - k) k T = some T := by
  cases N.tr.length + 1 - k with
  | zero => rfl
  | succ f => unfold stepI; rw [if_neg (by omega)]
 rw [this]
theorem contI_step {N : Nt} {most i k : Nat} {T : TS} (h : k < N.tr.length) : contI N most i k T = match stepK N most i T k with | some T' => contI N most i (k + 1) T' | none => none := by
 unfold contI;obtain ⟨f, hf⟩ : ∃ f, N.tr.length + 1 - k = f + 1 := ⟨N.tr.length - k, by omega⟩;rw [hf, show N.tr.length + 1 - (k + 1) = f by omega];rw [stepI, if_pos h];cases stepK N most i T k <;> rfl
theorem contF_end {N : Nt} {most i : Nat} {T : TS} (h : T.nodes.length ≤ i) : contF N most i T = some T := by
 unfold contF;cases 20002 - i with
 | zero => rfl
 | succ f => unfold growF; rw [List.getElem?_eq_none h]
theorem contF_old {N : Nt} {most i : Nat} {T : TS} {d : Nd} (hi : T.nodes[i]? = some d) (hl : i < 20002) (h : d.nw = false) : contF N most i T = contF N most (i + 1) T := by
 unfold contF;obtain ⟨f, hf⟩ : ∃ f, 20002 - i = f + 1 := ⟨20001 - i, by omega⟩;rw [hf, show 20002 - (i + 1) = f by omega, growF, hi];simp [h]
theorem contF_new {N : Nt} {most i : Nat} {T : TS} {d : Nd} (hi : T.nodes[i]? = some d) (hl : i < 20002) (h : d.nw = true) : contF N most i T = contI N most i 0 T := by
 unfold contF contI;obtain ⟨f, hf⟩ : ∃ f, 20002 - i = f + 1 := ⟨20001 - i, by omega⟩;rw [hf, show 20002 - (i + 1) = f by omega, growF, hi];simp only [h, if_true, Nat.sub_zero];cases stepI N most i (N.tr.length + 1) 0 T <;> rfl
theorem growT_cont {N : Nt} {m : List Int} {most : Nat} : growT N m most = match addN most ⟨[], []⟩ ⟨m, m, -1, -1, 0, -1, false, false⟩ with | some T => contF N most 0 T | none => none := rfl
theorem stepK_no {N : Nt} {most i k : Nat} {T : TS} {d : Nd} {t : Tr} (hi : T.nodes[i]? = some d) (hk : N.tr[k]? = some t) (h : canT t d.ms = false) : stepK N most i T k = some T := by
 unfold stepK; rw [hi, hk]; simp [h]
theorem stepK_big {N : Nt} {most i k : Nat} {T : TS} {d : Nd} {t : Tr} (hi : T.nodes[i]? = some d) (hk : N.tr[k]? = some t) (h : canT t d.ms = true) (hb : bigM (fireT t d.ms) = true) : stepK N most i T k = none := by
 unfold stepK; rw [hi, hk]; simp [h, hb]
theorem stepK_add {N : Nt} {most i k : Nat} {T : TS} {d : Nd} {t : Tr} (hi : T.nodes[i]? = some d) (hk : N.tr[k]? = some t) (h : canT t d.ms = true) (hb : bigM (fireT t d.ms) = false) {u : Up} (hu : upAll T.nodes (i + 1) i ⟨fireT t d.ms, -1, false⟩ = u) : stepK N most i T k = addN most T ⟨fireT t d.ms, u.y, i, k, 0, u.gr, false, u.om⟩ := by
 unfold stepK; rw [hi, hk]; simp only [h, if_true, hb, Bool.false_eq_true, if_false, hu]
theorem GP.at_ {w0 wr : World} {tb : Nat} {vN vS : Value} {NL : List Nv} {SL : List Value} {T : TS} (h : GP w0 wr tb vN vS NL SL T) {i : Nat} {d : Nd} (hi : T.nodes[i]? = some d) :
 ∃ g cap x, vN = .slice (some ⟨g, 0, none⟩) NL.length cap ∧ g < wr.heap.size ∧ w0.heap.size ≤ g ∧ i < NL.length ∧ x.d = d ∧ NS w0 wr x.vp d.pn ∧ NS w0 wr x.vm d.ms ∧ ∀ j u, (ndC x)[j]? = some u → wr.cell? ⟨g, i * 8 + j, none⟩ = some u := by
 have hl : i < NL.length := by rw [h.len]; exact (List.getElem?_eq_some_iff.1 hi).1
 obtain ⟨A, cap, hv, hA⟩ := row_slice h.nds;obtain ⟨g, rfl, h1, h2⟩ := hA (by omega);have hx : (NL[i]).d = d := by
  have := h.ndm;rw [← this, List.getElem?_map, List.getElem?_eq_getElem hl] at hi;simpa using hi
 obtain ⟨r1, r2⟩ := h.ndr _ (List.getElem_mem hl);rw [hx] at r1 r2;refine ⟨g, cap, NL[i], hv, h2, h1, hl, hx, r1, r2, fun j u hj => ?_⟩;have hj8 : j < 8 := by have := (List.getElem?_eq_some_iff.1 hj).1; rw [ndC_len] at this; exact this
 subst hv;have hc := h.nds.cells (g := g) rfl (i * 8 + j) u (by
  have e1 := drop_flat (c := ndC) (K := 8) ndC_len NL i;have e2 : (NL.flatMap ndC)[i * 8 + j]? = ((NL.flatMap ndC).drop (i * 8))[j]? := by rw [List.getElem?_drop]
  rw [e2, e1, List.drop_eq_getElem_cons hl, List.flatMap_cons, List.getElem?_append_left (by rw [ndC_len]; exact hj8)];exact hj)
 have ha : (⟨g, 0, none⟩ : Addr).add (i * 8 + j) = ⟨g, i * 8 + j, none⟩ := by unfold Addr.add; split <;> simp_all
 rw [ha] at hc; exact hc
def GrPo (R : Option TS) (w : World) (e : Ending) (w' : World) : Prop := match R with
 | some T => ∃ tb vN vS NL SL, e = .returned (.tuple #[.pointer (some ⟨tb, 0, none⟩), .int .i64 0]) ∧ GP w w' tb vN vS NL SL T
 | none => e = .returned (.tuple #[.pointer none, .int .i64 13]) ∧ Below w.heap.size w w'
theorem GrPo.no {R : Option TS} {w w' : World} {e : Ending} (h : R = none) (he : e = .returned (.tuple #[.pointer none, .int .i64 13])) (hb : Below w.heap.size w w') : GrPo R w e w' := by subst h; exact ⟨he, hb⟩
theorem grow_start (w : World) (pl : Int) (A : Option Addr) (n c : Nat) (src snk : Int) (most : Nat) :
 GC ((w.alloc (.cells #[.int .i64 pl, .slice A n c, .int .i64 src, .int .i64 snk] 30)).alloc (.cells #[.int .i64 (most : Int)] 3)) ((((((w.alloc (.cells #[.int .i64 pl, .slice A n c, .int .i64 src, .int .i64 snk] 30)).alloc (.cells #[.int .i64 (most : Int)] 3)).alloc (.cells #[.slice none 0 0, .slice none 0 0] 91)).alloc (.cells #[.pointer (some ⟨w.heap.size + 1 + 1, 0, none⟩)] 86)).alloc (.map #[] 0)).alloc (.cells #[.map (some (w.heap.size + 1 + 1 + 1 + 1))] 115)) (w.heap.size + 1 + 1 + 1 + 1 + 1) (w.heap.size + 1 + 1 + 1) (w.heap.size + 1) (w.heap.size + 1 + 1 + 1 + 1) most (w.heap.size + 1 + 1) (.slice none 0 0) (.slice none 0 0) [] [] ⟨[], []⟩ ∧ NB ((w.alloc (.cells #[.int .i64 pl, .slice A n c, .int .i64 src, .int .i64 snk] 30)).alloc (.cells #[.int .i64 (most : Int)] 3)) w.heap.size pl A n c src snk ∧ Below w.heap.size w ((w.alloc (.cells #[.int .i64 pl, .slice A n c, .int .i64 src, .int .i64 snk] 30)).alloc (.cells #[.int .i64 (most : Int)] 3)) := by
 have hk := KM.made (((((w.alloc (.cells #[.int .i64 pl, .slice A n c, .int .i64 src, .int .i64 snk] 30)).alloc (.cells #[.int .i64 (most : Int)] 3)).alloc (.cells #[.slice none 0 0, .slice none 0 0] 91)).alloc (.cells #[.pointer (some ⟨w.heap.size + 1 + 1, 0, none⟩)] 86)));have e0 : w.heap.size + 1 + 1 = ((w.alloc (.cells #[.int .i64 pl, .slice A n c, .int .i64 src, .int .i64 snk] 30)).alloc (.cells #[.int .i64 (most : Int)] 3)).heap.size := by simp
 have hA := heap_alloc_new (w.alloc (.cells #[.int .i64 pl, .slice A n c, .int .i64 src, .int .i64 snk] 30)) (.cells #[.int .i64 (most : Int)] 3);have hN := (NB.new w pl A n c src snk).below (below_alloc _ (.cells #[.int .i64 (most : Int)] 3));have hB := two_boxes w (.cells #[.int .i64 pl, .slice A n c, .int .i64 src, .int .i64 snk] 30) (.cells #[.int .i64 (most : Int)] 3);have e1 : (w.alloc (.cells #[.int .i64 pl, .slice A n c, .int .i64 src, .int .i64 snk] 30)).heap.size = w.heap.size + 1 := by simp
 rw [e1] at hA;generalize ((w.alloc (.cells #[.int .i64 pl, .slice A n c, .int .i64 src, .int .i64 snk] 30)).alloc (.cells #[.int .i64 (most : Int)] 3)) = w0 at *;rw [e0] at hk ⊢;have b1 := heap_alloc_new w0 (.cells #[.slice none 0 0, .slice none 0 0] 91);have b2 := heap_alloc_new (w0.alloc (.cells #[.slice none 0 0, .slice none 0 0] 91)) (.cells #[.pointer (some ⟨w0.heap.size, 0, none⟩)] 86);have s1 : (w0.alloc (.cells #[.slice none 0 0, .slice none 0 0] 91)).heap.size = w0.heap.size + 1 := by simp
 rw [s1] at b2;have c1 := below_alloc w0 (.cells #[.slice none 0 0, .slice none 0 0] 91);have c2 := below_alloc (w0.alloc (.cells #[.slice none 0 0, .slice none 0 0] 91)) (.cells #[.pointer (some ⟨w0.heap.size, 0, none⟩)] 86);have s2 : ((w0.alloc (.cells #[.slice none 0 0, .slice none 0 0] 91)).alloc (.cells #[.pointer (some ⟨w0.heap.size, 0, none⟩)] 86)).heap.size = w0.heap.size + 1 + 1 := by simp
 rw [s2] at hk;have b1' := c2.block w0.heap.size (by omega);rw [b1] at b1';generalize ((w0.alloc (.cells #[.slice none 0 0, .slice none 0 0] 91)).alloc (.cells #[.pointer (some ⟨w0.heap.size, 0, none⟩)] 86)) = w2 at *;have c12 : Below w0.heap.size w0 w2 := below_then c1 c2;have c3 := below_alloc w2 (.map #[] 0);have c4 := below_alloc (w2.alloc (.map #[] 0)) (.cells #[.map (some (w0.heap.size + 1 + 1))] 115);have c34 := below_then c3 c4;have b4 := heap_alloc_new (w2.alloc (.map #[] 0)) (.cells #[.map (some (w0.heap.size + 1 + 1))] 115);have s3 : (w2.alloc (.map #[] 0)).heap.size = w0.heap.size + 1 + 1 + 1 := by simp [s2]
 rw [s3] at b4;refine ⟨⟨b4, by rw [c34.block _ (by omega)]; exact b2, ?_, by omega, hk.below c4, ?_⟩, hN, hB⟩
 · rw [c34.block _ (by omega), c12.block _ (by have := (Array.getElem?_eq_some_iff.1 hA).1; omega)]; exact hA
 · exact ⟨by rw [c34.block _ (by omega)]; exact b1', Nat.le_refl _, World.ownsRow_nil _ _ _ _, rfl, fun x hx => by simp at hx, World.ownsRow_nil _ _ _ _, rfl, fun k v s hk _ => by simp at hk, below_then c12 c34⟩
def OutI (N : Nt) (M : List Int) (most : Nat) (R : Option TS) (w0 : World) (ba bt bm mb tb g : Nat) (iv : Value) (wr : World) : Prop :=
 ∃ (i : Nat) (T : TS) (vN vS : Value) (NL : List Nv) (SL : List Value), i + g = 20002 ∧ iv = .int .i64 (i : Int) ∧ GC w0 wr ba bt bm mb most tb vN vS NL SL T ∧ TInv N M T ∧ i ≤ T.nodes.length ∧ R = contF N most i T
def InI (N : Nt) (M : List Int) (most : Nat) (R : Option TS) (w0 : World) (ba bt bm mb tb n i : Nat) (d : Nd) (g : Nat) (kv : Value) (wr : World) : Prop :=
 ∃ (k : Nat) (T : TS) (vN vS : Value) (NL : List Nv) (SL : List Value), k + g = n ∧ kv = .int .i64 (k : Int) ∧ GC w0 wr ba bt bm mb most tb vN vS NL SL T ∧ TInv N M T ∧ T.nodes[i]? = some d ∧ R = contI N most i k T
def UpI (T : TS) (i k m : Nat) (w4 : World) (yb yg yc : Nat) (vp : Value) (U : Up) (g : Nat) (av : Value) (wr : World) : Prop :=
 ∃ (a : Int) (u : Up), av = .int .i64 a ∧ -1 ≤ a ∧ a < (g : Int) ∧ a ≤ (i : Int) ∧ upAll T.nodes g a u = U ∧ u.y.length = m ∧ NdB wr yb vp (.slice (some ⟨yg, 0, none⟩) m yc) (i : Int) (k : Int) 0 u.gr false u.om ∧ NS w4 wr (.slice (some ⟨yg, 0, none⟩) m yc) u.y
theorem upAll_neg {N : List Nd} {g : Nat} {a : Int} {u : Up} (h : a < 0) : upAll N g a u = u := by
 cases g with
 | zero => rfl
 | succ g => unfold upAll; rw [if_pos h]
theorem upAll_pos {N : List Nd} {g b : Nat} {u : Up} {z : Nd} (h : b < g) (hz : N[b]? = some z) : upAll N g (b : Int) u = upAll N (g - 1) z.ab (upOne z.ms b u) := by
 obtain ⟨f, rfl⟩ : ∃ f, g = f + 1 := ⟨g - 1, by omega⟩;rw [upAll, if_neg (by omega)];simp only [Int.toNat_natCast, hz, Nat.add_sub_cancel]
theorem upOne_no {z : List Int} {b : Nat} {u : Up} (h : (atMost z u.y && decide (z ≠ u.y)) = false) : upOne z b u = u := by unfold upOne; rw [if_neg (by rw [h]; decide)]
theorem upOne_yes {z : List Int} {b : Nat} {u : Up} (h : (atMost z u.y && decide (z ≠ u.y)) = true) : upOne z b u = ⟨List.zipWith (fun a b : Int => if a ≠ b then -1 else b) z u.y, if u.gr < 0 then (b : Int) else u.gr, true⟩ := by
 unfold upOne lift1; rw [if_pos h, if_pos h]
theorem TInv.ab_ge {N : Nt} {m : List Int} {T : TS} (h : TInv N m T) (j : Nat) (d : Nd) (hd : T.nodes[j]? = some d) : -1 ≤ d.ab := by
 rcases Nat.eq_zero_or_pos j with h0 | h0
 · subst h0;rw [h.root] at hd; cases hd; show (-1 : Int) ≤ -1; omega
 · obtain ⟨i, k, e, t, hij, ha, _⟩ := h.par j d hd h0;omega
theorem getD_all {m : List Int} {P : Int → Prop} (h : ∀ p : Nat, P (m.getD p 0)) : ∀ x ∈ m, P x := by
 intro x hx;obtain ⟨p, hp, rfl⟩ := List.getElem_of_mem hx;have := h p;simpa [hp] using this
theorem okZ_up {u : Up} {pn : List Int} {m : Nat} (hl : u.y.length = m) (hm : m ≤ 40) (h : ∀ p, p < m → u.y.getD p 0 = pn.getD p 0 ∨ u.y.getD p 0 = -1) (h1 : okE pn) (h2 : ∀ p, pn.getD p 0 ≤ 100) : okZ u.y := by
 refine ⟨?_, by omega⟩;have key : ∀ x ∈ u.y, -9223372036854775808 ≤ x ∧ x ≤ 9223372036854775807 := getD_all (P := fun x => -9223372036854775808 ≤ x ∧ x ≤ 9223372036854775807) fun p => by
  rcases Nat.lt_or_ge p m with hp | hp
  · have := h1 p; have := h2 p;rcases h p hp with e | e <;> rw [e] <;> omega
  · rw [getD_out (by omega)]; omega
 exact key
def zipTo (z y : List Int) (q : Nat) : List Int := List.zipWith (fun a b : Int => if a ≠ b then -1 else b) (z.take q) (y.take q) ++ y.drop q
theorem zipTo_zero (z y : List Int) : zipTo z y 0 = y := by simp [zipTo]
theorem zipTo_all {z y : List Int} (h : z.length = y.length) {q : Nat} (hq : y.length ≤ q) : zipTo z y q = List.zipWith (fun a b : Int => if a ≠ b then -1 else b) z y := by
 unfold zipTo; rw [List.take_of_length_le (by omega), List.take_of_length_le (by omega), List.drop_eq_nil_of_le hq, List.append_nil]
theorem zipTo_len {z y : List Int} (h : z.length = y.length) (q : Nat) : (zipTo z y q).length = y.length := by
 unfold zipTo; rw [List.length_append, List.length_zipWith, List.length_take, List.length_take, List.length_drop]; omega
theorem zipTo_get {z y : List Int} (h : z.length = y.length) {q : Nat} (hq : q < y.length) : ∃ h' : q < (zipTo z y q).length, (zipTo z y q)[q] = y[q] ∧ zipTo z y (q + 1) = (if z[q]'(by omega) ≠ y[q] then (zipTo z y q).set q (-1) else zipTo z y q) := by
 have hl := zipTo_len h q;refine ⟨by omega, ?_, ?_⟩
 · unfold zipTo;rw [List.getElem_append_right (by rw [List.length_zipWith, List.length_take, List.length_take]; omega)];simp only [List.length_zipWith, List.length_take, List.getElem_drop]
   congr 1; omega
 · have hp : (List.zipWith (fun a b : Int => if a ≠ b then -1 else b) (z.take q) (y.take q)).length = q := by rw [List.length_zipWith, List.length_take, List.length_take]; omega
   have e : zipTo z y q = List.zipWith (fun a b : Int => if a ≠ b then -1 else b) (z.take q) (y.take q) ++ y[q] :: y.drop (q + 1) := by unfold zipTo; rw [List.drop_eq_getElem_cons hq]
   have e2 : zipTo z y (q + 1) = List.zipWith (fun a b : Int => if a ≠ b then -1 else b) (z.take q) (y.take q) ++ (if z[q]'(by omega) ≠ y[q] then -1 else y[q]) :: y.drop (q + 1) := by
    unfold zipTo;rw [List.take_succ_eq_append_getElem (show q < z.length by omega), List.take_succ_eq_append_getElem hq, List.zipWith_append (by rw [List.length_take, List.length_take]; omega)];simp
   rw [e, e2];split
   · rw [List.set_append_right _ _ (by omega), hp, Nat.sub_self]; rfl
   · rfl
def LpI (z y : List Int) (i k m : Nat) (w4 : World) (yb yg yc : Nat) (vp : Value) (gr : Int) (om : Bool) (g : Nat) (pv : Value) (wx : World) : Prop :=
 ∃ q : Nat, q + g = m ∧ pv = .int .i64 (q : Int) ∧ NdB wx yb vp (.slice (some ⟨yg, 0, none⟩) m yc) (i : Int) (k : Int) 0 gr false om ∧ NS w4 wx (.slice (some ⟨yg, 0, none⟩) m yc) (zipTo z y q)
theorem mkM {N : Nt} {M : List Int} (h : mkB N M = true) : isM M := by
 intro p;rcases Nat.lt_or_ge p M.length with hp | hp
 · have := mk_nums h _ (List.getElem_mem hp);simpa [hp] using this
 · rw [getD_out hp]; omega
theorem pls_ok {n : Int} {l : List Int} {m : Nat} (hm : (m : Int) = n) (h : plB n l = true) : plsOk l m := by
 refine ⟨fun p hp => by have := plB_in n l h p hp; omega, ?_⟩;show List.Pairwise (· ≠ ·) l;rw [List.pairwise_iff_getElem];intro i j hi hj hij e;have key : ∀ a b (hb : b < l.length) (hab : a < b), l[a]'(by omega) < l[b] := by
  intro a b
  induction b with
  | zero => intro _ h; omega
  | succ b ih =>
   intro hb hab;have h1 := plB_lt n l b hb h;rcases Nat.lt_or_ge a b with h2 | h2
   · have := ih (by omega) h2; omega
   · obtain rfl : a = b := by omega
     exact h1
 have := key i j hj hij;omega
theorem pls_len {l : List Int} {m : Nat} (h : plsOk l m) : l.length ≤ m := by
 obtain ⟨h1, h2⟩ := h;have h3 : (l.map Int.toNat).Nodup := by
  show List.Pairwise (· ≠ ·) _;rw [List.pairwise_map];exact List.Pairwise.imp_of_mem (fun {a b} ha hb hne e => hne (by have := h1 a ha; have := h1 b hb; omega)) h2
 have h4 : (l.map Int.toNat) ⊆ List.range m := by
  intro x hx;obtain ⟨a, ha, rfl⟩ := List.mem_map.1 hx;have := h1 a ha;exact List.mem_range.2 (by omega)
 have := h3.length_le_of_subset h4;simpa using this
theorem pls_small {l : List Int} {m M : Nat} (_h : inM l m) (hl : l.length ≤ M) (hM : M ≤ 1000) : l.length ≤ 1000 := Nat.le_trans hl hM
theorem netOk_of {N : Nt} {m : Nat} (h : ntB N = true) (hm : (m : Int) = N.pl) : netOk N m := by
 intro k t hk;unfold ntB at h;rw [Bool.and_eq_true, Bool.and_eq_true, List.all_eq_true] at h;have := h.2.1 t (List.mem_of_getElem? hk);unfold trB at this;rw [Bool.and_eq_true, Bool.and_eq_true] at this;exact ⟨pls_ok hm this.2.1, pls_ok hm this.2.2⟩
theorem Fine.bndM {n : Nat} {d : Nd} (h : Fine n d) : bnd 1000 d.ms := getD_all (P := fun x => -1000 ≤ x ∧ x ≤ 1000) fun p => by
 have h1 := h.em p;have h2 := h.sp p;rcases Nat.lt_or_ge p n with hp | hp
 · have h3 := h.up p hp; omega
 · rw [getD_out (by rw [h.lm]; exact hp)]; omega
theorem grow_any (N : Nt) (A : Option Addr) (n c : Nat) (Am : Option Addr) (m cm : Nat) (M : List Int) (most : Nat) (w : World) (h : TIn w A N.tr) (hn : N.tr.length = n) (hM : ZIn w Am M) (hm : M.length = m) (hv : mkB N M = true) (ht : Tb w) :
 Calls Tryz.prog 63 #[.agg #[.int .i64 N.pl, .slice A n c, .int .i64 N.src, .int .i64 N.snk], .slice Am m cm, .int .i64 (most : Int)] w (GrPo (growT N M most) w) := by
 obtain ⟨hs1, hs2, hs3⟩ := nt_small (mk_nt hv);have hml : (m : Int) = N.pl := by rw [← hm]; exact mk_len hv
 have HIn := hid (nt_inM (mk_nt hv) (m := m) hml);have HNums := hid (mk_nums hv);have HisM := hid (mkM hv);have HNet := hid (netOk_of (mk_nt hv) (m := M.length) (by rw [hm]; exact hml));have HR := hid (growT_cont (N := N) (m := M) (most := most));generalize growT N M most = R at *;have HLn := hid hn;have HLm := hid hm;have hm0 : 0 < m := by omega
 have hm40 : m ≤ 40 := by omega
 have hn60 : n ≤ 60 := by omega
 have HT := hid ht;have HIt := hid h;have HZ := hid hM;clear h hn hM hm hv ht hs1 hs2 hs3 hml;have hmm := @run_makeMap Tryz.prog;have HS := hid (grow_start w N.pl A n c N.src N.snk most);have HBw := hid HS.out.2.2;go_enter Tryz.func63, Tryz.ntmps63;go_wp2_with fail;generalize w.heap.size + 1 + 1 + 1 + 1 + 1 = ba at *;generalize w.heap.size + 1 + 1 + 1 + 1 = mb at *;generalize w.heap.size + 1 + 1 + 1 = bt at *;generalize w.heap.size + 1 + 1 = tb at *;generalize w.heap.size + 1 = bm at *;generalize (w.alloc _).alloc _ = w0 at *;generalize (((w0.alloc _).alloc _).alloc _).alloc _ = wi at *;have HG := hid HS.out.1;have HNb := hid HS.out.2.1;clear HS;have HZi := hid ((HZ.out.below HBw.out).below HG.out.gp.bel);have HTi := hid ((HT.out.below HBw.out).below HG.out.gp.bel);have HIt0 := hid (HIt.out.below HBw.out);have HT0 := hid (HT.out.below HBw.out);clear HZ HT HIt;((with_reducible refine (clone_any Am m cm M wi HZi.out HLm.out (by omega)).mono ?_); rintro e w1 ⟨v, rfl, hS1⟩)
 obtain ⟨Av, cv, rfl⟩ := hS1.slice;have HS1 := hid (NS.up HG.out.gp.bel hS1);have HG1 := hid (HG.out.below hS1.2);have HT1 := hid (HTi.out.below hS1.2);clear hS1 HG HTi HZi;have HOk := hid (show okZ M from ⟨fun x hx => by have := HNums.out x hx; omega, by rw [HLm.out]; omega⟩);have HAdd := hid (add_any w0 ba bt bm mb most tb (.slice none 0 0) (.slice none 0 0) [] [] ⟨[], []⟩ ⟨M, M, -1, -1, 0, -1, false, false⟩ (.slice Av M.length cv) (.slice Av M.length cv) 0 false w1 HG1.out HS1.out HS1.out HOk.out (by decide) (by decide) (fun i j s hi => by simp at hi) HT1.out);cases hq : addN most ⟨[], []⟩ ⟨M, M, -1, -1, 0, -1, false, false⟩ with
 | none =>
  rw [hq] at HAdd HR;go_wp2_with fail;((with_reducible refine HAdd.out.mono ?_); rintro e w2 ⟨hb2, he⟩)
  have he' : e = .returned (.int .i64 13) := he;clear he;subst he';have HB2 := hid hb2;clear hb2;go_wp2_with fail;go_ret2;exact GrPo.no HR.out rfl (HBw.out.trans (HB2.out.mono HBw.out.size))
 | some T0 =>
  have HInv := hid (TInv.start (N := N) hq);rw [hq] at HAdd HR;go_wp2_with fail;((with_reducible refine HAdd.out.mono ?_); rintro e w2 ⟨hb2, he⟩)
  obtain ⟨he', vN, vS, NL, SL, hgc⟩ : e = .returned (.int .i64 0) ∧ ∃ vN vS NL SL, GC w0 w2 ba bt bm mb most tb vN vS NL SL T0 := he;subst he';have HG2 := hid hgc;clear hb2 hgc HAdd HG1 HT1 HS1 hq;go_wp2_with fail;go_loopg [13] (20002) (fun g iv wr => OutI N M most R w0 ba bt bm mb tb g iv wr);case atStart => exact ⟨0, T0, vN, vS, NL, SL, by omega, rfl, HG2.out, HInv.out.1, Nat.zero_le _, HR.out⟩
  case round =>
   clear HG2 HInv HR;obtain ⟨i, T, vN, vS, NL, SL, hig, rfl, hG, hI, hil, hR⟩ := hrel;have HG := hid hG;have HI := hid hI;have HR := hid hR;have HK := hid hig;have HL := hid hG.gp.len;have hnl : NL.length ≤ 20001 := by rw [hG.gp.len]; exact hI.len
   have hil2 : i ≤ NL.length := by rw [hG.gp.len]; exact hil
   clear hG hI hR hig hil;obtain ⟨k0, k1, k2⟩ := HG.out.cells;obtain ⟨t0, t1, _, _⟩ := HG.out.gp.cells;by_cases hlt : i < NL.length
   · obtain ⟨d, hd⟩ : ∃ d, T.nodes[i]? = some d := ⟨_, List.getElem?_eq_getElem (by rw [← HL.out]; exact hlt)⟩;have HD := hid hd;obtain ⟨gN, cN, x, hv, hg1, hg2, _, hx, hp, hm, hc⟩ := HG.out.gp.at_ hd;have c6 := hc 6 _ rfl;have c1 := hc 1 _ rfl;rw [hx] at c6;clear hc hd;subst hv;cases hnw : d.nw with
     | false =>
      rw [hnw] at c6;have HX := hid (contF_old (N := N) (most := most) HD.out (by omega) hnw);clear hnw;go_wp2_with fail;go_roundg (gk - 1);case measure => have := HK.out; omega
      case rel => exact ⟨i + 1, T, _, vS, NL, SL, by have := HK.out; omega, by go_num, HG.out, HI.out, by rw [← HL.out]; omega, by rw [HR.out, HX.out]⟩
     | true =>
      rw [hnw] at c6;have HX := hid (contF_new (N := N) (most := most) HD.out (by omega) hnw);rw [HX.out] at HR;have HNw := hid hnw;clear hnw HX;obtain ⟨b0, b1, b2, b3⟩ := (HNb.out.below HG.out.gp.bel).cells;have HFi := hid (HI.out.fine HNet.out HisM.out i d HD.out);go_wp2_with fail;obtain ⟨go, rfl⟩ : ∃ go, go = gk := ⟨_, rfl⟩;obtain ⟨wo, rfl⟩ : ∃ wo : World, wo = wr := ⟨_, rfl⟩;go_loopg [58] (n) (fun g kv wr => InI N M most R w0 ba bt bm mb tb n i d g kv wr);case atStart => exact ⟨0, T, _, vS, NL, SL, by omega, rfl, HG.out, HI.out, HD.out, HR.out⟩
      case round =>
       clear HG HI HR HL HD;obtain ⟨k, T, vN, vS, NL, SL, hkg, rfl, hG, hI, hd, hR⟩ := hrel;have HG := hid hG;have HI := hid hI;have HR := hid hR;have HKk := hid hkg;have HD := hid hd;have HL := hid hG.gp.len;have hnl : NL.length ≤ 20001 := by rw [hG.gp.len]; exact hI.len
       have hkn : k ≤ n := by omega
       clear hG hI hR hkg hd;obtain ⟨k0, k1, k2⟩ := HG.out.cells;obtain ⟨t0, t1, _, _⟩ := HG.out.gp.cells;obtain ⟨b0, b1, b2, b3⟩ := (HNb.out.below HG.out.gp.bel).cells;by_cases hlk : k < n
       · have hlk' : k < N.tr.length := by rw [HLn.out]; exact hlk
         obtain ⟨ad, rfl, hpa, q0, ⟨u1, q1, s1⟩, u2, q2, s2⟩ := (HIt0.out.below HG.out.gp.bel) k hlk';have HInK := hid (HIn.out _ (List.getElem_mem hlk'));have HTk := hid (List.getElem?_eq_getElem hlk');have HStep := hid (contI_step (N := N) (most := most) (i := i) (k := k) (T := T) hlk');generalize N.tr[k] = tt at *;obtain ⟨lb, li, lo⟩ := tt;simp only at q0 q1 s1 q2 s2 HInK;obtain ⟨Ai, ni, ci, rfl, zi, hi1, hi2, hi3⟩ := s1;obtain ⟨Ao, no, co, rfl, zo, ho1, ho2, ho3⟩ := s2;have hni : ni ≤ 1000 := by rw [← hi1]; exact pls_small HInK.out.1 (pls_len (HNet.out k _ HTk.out).1) (by rw [HLm.out]; omega)
         have hno : no ≤ 1000 := by rw [← ho1]; exact pls_small HInK.out.2 (pls_len (HNet.out k _ HTk.out).2) (by rw [HLm.out]; omega)
         obtain ⟨gN, cN, x, hv, hg1, hg2, hlt2, hx, hp, hm, hc⟩ := HG.out.gp.at_ HD.out;have c1 := hc 1 _ rfl;clear hc;subst hv;obtain ⟨Ax, cx, hvx⟩ := hm.slice;have hlx : d.ms.length = m := by rw [HFi.out.lm]; exact HLm.out
         rw [hvx, hlx] at c1;have HZx := hid (show ZIn wr Ax d.ms by obtain ⟨A', c', e, hz, _⟩ := hm.zin; rw [hvx] at e; cases e; exact hz);have HLx := hid hlx;clear hvx hlx hm hp hx;have HZi := hid zi;have HZo := hid zo;have HLi := hid hi1;have HLo := hid ho1;clear zi zo hi1 ho1 hi2 ho2;have HA := hid (below_alloc wr (.cells #[.string lb, .slice Ai ni ci, .slice Ao no co] 42));have HTb := hid (TB.new wr lb Ai ni ci Ao no co);have HG1 := hid (HG.out.below HA.out);have HZx1 := hid (HZx.out.below HA.out);have HZi1 := hid (HZi.out.below HA.out);have HZo1 := hid (HZo.out.below HA.out);have hbx1 : wr.heap.size < (wr.alloc (.cells #[.string lb, .slice Ai ni ci, .slice Ao no co] 42)).heap.size := by simp
         have c1a := cell_stays HA.out c1;clear c1;have hi0 : (0 : Int) ≤ (i : Int) := by omega
         have hi1 : (i : Int) < (NL.length : Int) := by omega
         obtain ⟨k0, k1, k2⟩ := HG1.out.cells;obtain ⟨t0', t1', _, _⟩ := HG1.out.gp.cells;go_wp2_with fail;generalize hbx : wr.heap.size = bx at *;generalize wr.alloc _ = w1 at *;obtain ⟨z0, z1, z2⟩ := HTb.out;have a0 := fun dd os => cell_regrown z0 dd os
         have a1 := fun dd os => cell_regrown z1 dd os
         have a2 := fun dd os => cell_regrown z2 dd os
         have a3 := fun dd os => cell_regrown k1 dd os
         have a4 := fun dd os => cell_regrown t0' dd os
         have a5 := fun dd os => cell_regrown c1a dd os
         have HEn := hid (fun dd os => enabled_cover lb Ai Ao Ax ni ci no co m cx li lo d.ms _ (HZi1.out.below (below_regrown w1 dd os)) HLi.out (by omega) (HZx1.out.below (below_regrown w1 dd os)) HLx.out HInK.out.1);cases hcan : canT ⟨lb, li, lo⟩ d.ms with
         | false =>
          rw [hcan] at HEn;have HX := hid (stepK_no (most := most) HD.out HTk.out hcan);rw [HX.out] at HStep;refine wp_region_quiet_below (by kernel_rfl) (by kernel_rfl) ?_;repeat (quiet_step (exact Calls.regrown_of (HEn.out _ _)))
          refine wpQuiet_nil ?_;intro _ hw';obtain ⟨⟨dq, osq⟩, hw''⟩ := hw';subst hw'';clear a0 a1 a2 a3 a4 a5 HEn z0 z1 z2 k0 k1 k2 t0' t1' c1a;have HGq := hid (HG1.out.below (below_regrown w1 dq osq));go_wp2_with fail;go_roundg (gk - 1);case measure => have := HKk.out; omega
          case rel => exact ⟨k + 1, T, _, vS, NL, SL, by have := HKk.out; omega, by go_num, HGq.out, HI.out, HD.out, by rw [HR.out, HStep.out]⟩
         | true =>
          rw [hcan] at HEn;refine wp_region_quiet_below (by kernel_rfl) (by kernel_rfl) ?_;repeat (quiet_step (exact Calls.regrown_of (HEn.out _ _)))
          refine wpQuiet_nil ?_;intro _ hw';obtain ⟨⟨dq, osq⟩, hw''⟩ := hw';subst hw'';clear a0 a1 a2 a3 a4 a5 HEn z0 z1 z2 k0 k1 k2 t0' t1';have hbq := below_regrown w1 dq osq;have HG2 := hid (HG1.out.below hbq);have HTb2 := hid (HTb.out.below hbq);have HZx2 := hid (HZx1.out.below hbq);have HZi2 := hid (HZi1.out.below hbq);have HZo2 := hid (HZo1.out.below hbq);have c1b := cell_stays hbq c1a;clear c1a hbq HG1 HTb HZx1 HZi1 HZo1;generalize Sort.grow (redrawn w1 dq) osq = w2 at *;have hbd : Below w2.heap.size w2 w2.drew := (Below.refl _ _).drew;have HGd := hid (HG2.out.below hbd);have HTbd := hid (HTb2.out.below hbd);have HZxd := hid (HZx2.out.below hbd);have HZid := hid (HZi2.out.below hbd);have HZod := hid (HZo2.out.below hbd);have hS0 := And.intro HTbd.out.1 (And.intro HTbd.out.2.1 (And.intro HTbd.out.2.2 (And.intro HGd.out.cells.2.1 (And.intro HGd.out.gp.cells.1 (cell_stays hbd c1b)))));clear c1b hbd HG2 HTb2 HZx2 HZi2 HZo2;go_wp2_with fail;refine rh6 hS0 (fun hHeld => ?_);clear hS0;generalize w2.drew = wd at *;have hS0 := hHeld;refine tkH 0 ?_;(try go_simp);refine tkH 1 ?_;(try go_simp);refine tkH 2 ?_;(try go_simp);refine tkH 3 ?_;(try go_simp);refine tkH 4 ?_;(try go_simp);refine tkH 5 ?_;(try go_simp);refine tkH 6 ?_;(try go_simp);refine tkH 7 ?_;(try go_simp);refine tkH 8 ?_;(try go_simp);refine tkR 9 (fun K hK => ?_);go_simp;((refine (cfire_any lb Ai Ao Ax ni ci no co m cx li lo d.ms _ HZid.out HLi.out hni HZod.out HLo.out hno HZxd.out HLx.out hm0 (by omega) HInK.out.1 HInK.out.2 HFi.out.bndM).mono ?_); rintro e w4 ⟨v4, rfl, hS4⟩; obtain ⟨A4, c4, rfl⟩ := hS4.slice)
          refine hK.out _ _ (⟨cell_stays hS4.2 hS0.1, cell_stays hS4.2 hS0.2.1, cell_stays hS4.2 hS0.2.2.1, cell_stays hS4.2 hS0.2.2.2.1, cell_stays hS4.2 hS0.2.2.2.2.1, cell_stays hS4.2 hS0.2.2.2.2.2⟩) (fun hHeld => ?_);clear hK K;try go_simp
          refine tkH 10 ?_;(try go_simp);refine tkH 11 ?_;(try go_simp);refine tkH 12 ?_;(try go_simp);refine tkH 13 ?_;(try go_simp);refine tkH 14 ?_;(try go_simp);refine wpAnyH_done (by kernel_rfl) ?_ _;have HG4 := hid (HGd.out.below hS4.2);have HP4 := hid (NS.up HGd.out.gp.bel hS4);clear hHeld hS0 HGd HTbd HZxd HZid HZod hS4;cases hbig : bigM (fireT ⟨lb, li, lo⟩ d.ms) with
          | true =>
           have HX := hid (stepK_big (most := most) HD.out HTk.out hcan hbig);rw [HX.out] at HStep;go_wp2_with fail;go_ret2;exact GrPo.no (by rw [HR.out, HStep.out]) rfl (HBw.out.trans (HG4.out.gp.bel.mono HBw.out.size))
          | false =>
           have hpl0 : (fireT ⟨lb, li, lo⟩ d.ms).length = m := by rw [fireT_len]; exact HLx.out
           have HOkp := hid (fire_okE (t := ⟨lb, li, lo⟩) (by rw [HFi.out.lm]; exact HNet.out k _ HTk.out) HFi.out.em hcan);have HBig := hid (bigM_le hbig);have HAddK := hid (fun u hu => stepK_add (u := u) (most := most) HD.out HTk.out hcan hbig hu);have HPut := hid (fun (u : Up) (hu : upAll T.nodes (i + 1) i ⟨fireT ⟨lb, li, lo⟩ d.ms, -1, false⟩ = u) (T' : TS) (hq : addN most T ⟨fireT ⟨lb, li, lo⟩ d.ms, u.y, i, k, 0, u.gr, false, u.om⟩ = some T') => And.intro (HI.out.put (addN_put hq) HD.out HNw.out HTk.out hcan rfl hbig (by rw [hu]) rfl rfl) (addN_put hq).pre);have HUg := hid (upAll_get T.nodes M.length (fun j e he => (HI.out.fine HNet.out HisM.out j e he).lm) (i + 1) i ⟨fireT ⟨lb, li, lo⟩ d.ms, -1, false⟩ (by rw [HLm.out]; exact hpl0)).2;clear hcan hbig;generalize fireT ⟨lb, li, lo⟩ d.ms = pn at *;have HPl := hid hpl0;rw [hpl0] at HP4;rw [hpl0];obtain ⟨Ap, cp, hep, hzp, _, _⟩ := HP4.out.zin;have hzp4 : ZIn w4 A4 pn := by rw [hpl0] at hep; cases hep; exact hzp
           clear hep hzp hpl0;go_wp2_with fail;((with_reducible refine (clone_any A4 m c4 pn w4 hzp4 HPl.out (by omega)).mono ?_); rintro e w5 ⟨vy, rfl, hS5⟩)
           obtain ⟨yg, yc, rfl, hy1, hy2⟩ := hS5.row (by rw [HPl.out]; exact hm0);rw [HPl.out] at hS5 ⊢;have HB5 := hid (below_alloc w5 (.cells #[.slice A4 m c4, .slice (some ⟨yg, 0, none⟩) m yc, .int .i64 (i : Int), .int .i64 (k : Int), .int .i64 0, .int .i64 (-1), .bool false, .bool false] 93));have HY6 := hid (NdB.new w5 (.slice A4 m c4) (.slice (some ⟨yg, 0, none⟩) m yc) i k 0 (-1) false false);have HS6 := hid (hS5.below HB5.out);have hyb : w4.heap.size ≤ w5.heap.size := hS5.2.size;have hGu := HI.out;have HU := hid (rfl : upAll T.nodes (i + 1) i ⟨pn, -1, false⟩ = upAll T.nodes (i + 1) i ⟨pn, -1, false⟩);clear hS5 HB5 hzp4;go_wp2_with fail;generalize w5.alloc _ = w6 at *;generalize hyb0 : w5.heap.size = yb at *;clear hyb0;obtain ⟨gi, rfl⟩ : ∃ gi, gi = gk := ⟨_, rfl⟩;go_loopg [19] (i + 1) (fun g av wr => UpI T i k m w4 yb yg yc (.slice A4 m c4) (upAll T.nodes (i + 1) i ⟨pn, -1, false⟩) g av wr);case atStart => exact ⟨i, ⟨pn, -1, false⟩, rfl, by omega, by omega, by omega, rfl, HPl.out, HY6.out, HS6.out⟩
           case round =>
            obtain ⟨a, u, rfl, ha1, hag, hai, hup, hul, hY, hS⟩ := hrel;have HY := hid hY;have HS := hid hS;have HUp := hid hup;have HUl := hid hul;have HGr := hid (HG4.out.below hS.2);have hwr : w4.heap.size ≤ wr.heap.size := hS.2.size;clear hY hS hup hul;obtain ⟨k0, k1, k2⟩ := HGr.out.cells;obtain ⟨t0, t1, _, _⟩ := HGr.out.gp.cells;obtain ⟨y0, y1, y2, y3, y4, y5, y6, y7⟩ := HY.out.cells;by_cases ha0 : a < 0
            · have ha9 : a = -1 := by omega
              subst ha9;rw [upAll_neg (by omega)] at HUp;have HSt := hid (HAddK.out u HUp.out.symm);have HPt := hid (HPut.out u HUp.out.symm);have HOz := hid (okZ_up (u := u) (pn := pn) HUl.out hm40 (fun p hp => by rw [HUp.out]; exact HUg.out p (by rw [HLm.out]; exact hp)) HOkp.out HBig.out);rw [HSt.out] at HStep;have HAdd := hid (add_any w0 ba bt bm mb most tb _ vS NL SL T ⟨pn, u.y, i, k, 0, u.gr, false, u.om⟩ (.slice A4 m c4) (.slice (some ⟨yg, 0, none⟩) m yc) 0 false wr HGr.out (HP4.out.below HS.out.2) (NS.up HG4.out.gp.bel HS.out) HOz.out (by have := HI.out.cnt; have := HI.out.len; omega) (by have := HI.out.len; omega) HI.out.nod (HT0.out.below HGr.out.gp.bel));clear HAddK HPut HSt HUg;cases hq : addN most T ⟨pn, u.y, i, k, 0, u.gr, false, u.om⟩ with
              | none =>
               rw [hq] at HAdd HStep;go_wp2_with fail;((with_reducible refine HAdd.out.mono ?_); rintro e w8 ⟨hb8, he⟩)
               have he' : e = .returned (.int .i64 13) := he;clear he;subst he';have HB8 := hid hb8;clear hb8;go_wp2_with fail;go_ret2;exact GrPo.no (by rw [HR.out, HStep.out]) rfl (HBw.out.trans (HB8.out.mono HBw.out.size))
              | some T' =>
               have HPq := hid (HPt.out T' hq);rw [hq] at HAdd HStep;go_wp2_with fail;((with_reducible refine HAdd.out.mono ?_); rintro e w8 ⟨hb8, he⟩)
               obtain ⟨he', vN', vS', NL', SL', hgc⟩ : e = .returned (.int .i64 0) ∧ ∃ vN vS NL SL, GC w0 w8 ba bt bm mb most tb vN vS NL SL T' := he;subst he';have HG8 := hid hgc;clear hb8 hgc HAdd hq;go_wp2_with fail;go_roundg (gi - 1);case measure => have := HKk.out; omega
               case rel => exact ⟨k + 1, T', vN', vS', NL', SL', by have := HKk.out; omega, by go_num, HG8.out, HPq.out.1, HPq.out.2.node HD.out, by rw [HR.out, HStep.out]⟩
            · obtain ⟨b, rfl⟩ := Int.eq_ofNat_of_zero_le (show 0 ≤ a by omega);obtain ⟨z, hz⟩ : ∃ z, T.nodes[b]? = some z := ⟨_, List.getElem?_eq_getElem (by have := (List.getElem?_eq_some_iff.1 HD.out).1; omega)⟩;have HAb := hid (And.intro (HI.out.ab_ge b z hz) (HI.out.ab b z hz));have HFz := hid (HI.out.fine HNet.out HisM.out b z hz);obtain ⟨gN', cN', x', hv', _, _, hbl, hx', _, hm', hc'⟩ := HG4.out.gp.at_ hz;cases hv';have z1 := hc' 1 _ rfl;have z2 := hc' 2 _ rfl;rw [hx'] at z2;have hlz : z.ms.length = m := by rw [HFz.out.lm]; exact HLm.out
              obtain ⟨Az, cz, hvz⟩ := hm'.slice;rw [hvz, hlz] at z1;have HZz4 := hid (show ZIn w4 Az z.ms by obtain ⟨A', c', e, hz, _⟩ := hm'.zin; rw [hvz] at e; cases e; exact hz);have HLz := hid hlz;rw [upAll_pos (by omega) hz] at HUp;have Z1 := hid z1;have Z2 := hid z2;clear hvz hlz hm' hx' hc' hz z1 z2;have hb0 : (0 : Int) ≤ (b : Int) := by omega
              have hb1 : (b : Int) < (NL.length : Int) := by omega
              have z1 := cell_stays HS.out.2 Z1.out;have HZz := hid (HZz4.out.below HS.out.2);have HZy := hid (show ZIn wr (some ⟨yg, 0, none⟩) u.y by obtain ⟨A', c', e, hz, _⟩ := HS.out.zin; cases e; exact hz);have HBe := hid (below_any Az m cz (some ⟨yg, 0, none⟩) m yc z.ms u.y wr HZz.out HLz.out HZy.out HUl.out (Nat.le_refl _) (by omega));cases hle : atMost z.ms u.y with
              | false =>
               rw [hle] at HBe;rw [upOne_no (by rw [hle]; rfl)] at HUp;go_wp2_with fail;((with_reducible refine HBe.out.mono ?_); rintro e w7 ⟨rfl, hb7⟩)
               have HY7 := hid (HY.out.below hb7);have HS7 := hid (HS.out.below hb7);clear hb7 k0 k1 k2 t0 t1 y0 y1 y2 y3 y4 y5 y6 y7 z1;have HGn := hid (HG4.out.below HS7.out.2);obtain ⟨k0, k1, k2⟩ := HGn.out.cells;obtain ⟨t0, t1, _, _⟩ := HGn.out.gp.cells;have z2n := cell_stays HS7.out.2 Z2.out;go_wp2_with fail;go_roundg (gk - 1);case measure => omega
               case rel => exact ⟨z.ab, u, rfl, by have := HAb.out; omega, by have := HAb.out; omega, by have := HAb.out; omega, HUp.out, HUl.out, HY7.out, HS7.out⟩
              | true =>
               rw [hle] at HBe;go_wp2_with fail;((with_reducible refine HBe.out.mono ?_); rintro e w7 ⟨rfl, hb7⟩)
               have HY7 := hid (HY.out.below hb7);have HS7 := hid (HS.out.below hb7);have HEq := hid (equal_any Az m cz (some ⟨yg, 0, none⟩) m yc z.ms u.y w7 (HZz.out.below hb7) HLz.out (HZy.out.below hb7) HUl.out (by omega) (by omega));clear hb7 k0 k1 k2 t0 t1 y0 y1 y2 y3 y4 y5 y6 y7 z1 HY HS HGr HZz HZy HBe;obtain ⟨y0, y1, y2, y3, y4, y5, y6, y7⟩ := HY7.out.cells;by_cases heq : z.ms = u.y
               · -- <<
                 rw [decide_eq_true heq] at HEq;rw [upOne_no (by simp [heq])] at HUp;clear heq hle;go_wp2_with fail;((with_reducible refine HEq.out.mono ?_); rintro e w9 ⟨rfl, hb9⟩)
                 have HY9 := hid (HY7.out.below hb9);have HS9 := hid (HS7.out.below hb9);clear hb9 y0 y1 y2 y3 y4 y5 y6 y7;have HGn := hid (HG4.out.below HS9.out.2);obtain ⟨k0, k1, k2⟩ := HGn.out.cells;obtain ⟨t0, t1, _, _⟩ := HGn.out.gp.cells;have z2n := cell_stays HS9.out.2 Z2.out;go_wp2_with fail;go_roundg (gk - 1);case measure => omega
                 case rel => exact ⟨z.ab, u, rfl, by have := HAb.out; omega, by have := HAb.out; omega, by have := HAb.out; omega, HUp.out, HUl.out, HY9.out, HS9.out⟩
               · rw [decide_eq_false heq] at HEq;rw [upOne_yes (by rw [hle, Bool.true_and]; simpa using heq)] at HUp;clear heq hle;go_wp2_with fail;((with_reducible refine HEq.out.mono ?_); rintro e w9 ⟨rfl, hb9⟩)
                 have HY9 := hid (HY7.out.below hb9);have HS9 := hid (HS7.out.below hb9);clear hb9 y0 y1 y2 y3 y4 y5 y6 y7 HY7 HS7 HEq;obtain ⟨ga, rfl⟩ : ∃ ga, ga = gk := ⟨_, rfl⟩;obtain ⟨wu, rfl⟩ : ∃ wu : World, wu = wr := ⟨_, rfl⟩;have hZl : z.ms.length = u.y.length := by rw [HLz.out, HUl.out]
                 have HZl := hid hZl;clear hZl;go_wp2_with fail;go_loopg [127] (m) (fun g pv wx => LpI z.ms u.y i k m w4 yb yg yc (.slice A4 m c4) u.gr u.om g pv wx);case atStart => exact ⟨0, by omega, rfl, HY9.out, by rw [zipTo_zero]; exact HS9.out⟩
                 case round =>
                  obtain ⟨q, hqg, rfl, hYx, hSx⟩ := hrel;have HKq := hid hqg;have HYx := hid hYx;have HSx := hid hSx;have hqm : q ≤ m := by omega
                  clear hqg hYx hSx HY9 HS9;obtain ⟨y0, y1, y2, y3, y4, y5, y6, y7⟩ := HYx.out.cells;by_cases hq : q < m
                  · obtain ⟨az, rfl, hpz, c5⟩ := (HZz4.out.below HSx.out.2) q (by rw [HLz.out]; exact hq);obtain ⟨hql, e1, e2⟩ := zipTo_get HZl.out (q := q) (by rw [HUl.out]; exact hq);have HC := hid (HSx.out.cells q hql);rw [e1] at HC;have HE2 := hid e2;have hqz : q < z.ms.length := by rw [HLz.out]; exact hq
                    have hqy : q < u.y.length := by rw [HUl.out]; exact hq
                    generalize z.ms[q] = zq at *;generalize u.y[q] = yq at *;clear e1 e2 hql;obtain ⟨r0, r1⟩ := HC.out;by_cases hne : zq = yq
                    · have q1 : (zq != yq) = false := by rw [hne]; exact bne_self_eq_false _
                      rw [if_neg (by simp [hne])] at HE2;clear hne;go_wp2_with fail;go_quiet (fail);go_wp2_with fail;go_roundg (gk - 1);case measure => have := HKq.out; omega
                      case rel => exact ⟨q + 1, by have := HKq.out; omega, by go_num, HYx.out.below (below_drewN _ _), by rw [HE2.out]; exact HSx.out.below (below_drewN _ _)⟩
                    · have q1 : (zq != yq) = true := by simpa using hne
                      rw [if_pos hne] at HE2;clear hne;go_wp2_with fail;go_quiet (fail);have HYd := hid (HYx.out.below (below_drewN _ nq));have HSd := hid (HSx.out.below (below_drewN _ nq));generalize wr.drewN nq = wd at *;have HCd := hid (HSd.out.cells q (by rw [zipTo_len HZl.out, HUl.out]; exact hq));have hne2 : some yb ≠ some yg := fun e => by
                       cases e;obtain ⟨cur, h1⟩ := own_kind HSd.out.1 rfl;have h2 := HYd.out;unfold NdB at h2;rw [h1] at h2; cases h2
                      obtain ⟨y0, y1, y2, y3, y4, y5, y6, y7⟩ := HYd.out.cells;obtain ⟨s0, s1⟩ := HCd.out;go_wp2_with fail;go_roundg (gk - 1);case measure => have := HKq.out; omega
                      case rel => exact ⟨q + 1, by have := HKq.out; omega, by go_num, HYd.out.grown (Lib.grownBy_setB (grown_refl wd (some yg)) q _) hne2, by rw [HE2.out]; exact HSd.out.set hy1 q (-1)⟩
                  · have HX2 := hid (zipTo_all HZl.out (q := q) (by rw [HUl.out]; omega));rw [HX2.out] at HSx;have hyb2 : w4.heap.size ≤ yb := hyb;by_cases hgr : u.gr < 0
                    · rw [if_pos hgr] at HUp;have xf5 := HYx.out.soft 5;have xf7 := HYx.out.soft 7
                      go_upto_region 22 with (fail)
                      have HYa := hid (HYx.out.set5 (b : Int));have HSa := hid (GC.box_ns (o := 5) HSx.out HYx.out hyb2 (.int .i64 (b : Int)));have HYb := hid (HYa.out.set7 true);have HSb := hid (GC.box_ns (o := 7) HSa.out HYa.out hyb2 (.bool true));clear HYa HSa;clear HYx HSx y0 y1 y2 y3 y4 y5 y6 y7 xf5 xf7;generalize (wr.setCell ⟨yb, 5, none⟩ (.int .i64 (b : Int))).setCell ⟨yb, 7, none⟩ (.bool true) = wz at *;have HGn := hid (HG4.out.below HSb.out.2);obtain ⟨k0, k1, k2⟩ := HGn.out.cells;obtain ⟨t0, t1, _, _⟩ := HGn.out.gp.cells;have z2n := cell_stays HSb.out.2 Z2.out;go_wp2_with fail;go_roundg (ga - 1);case measure => omega
                      case rel => exact ⟨z.ab, ⟨List.zipWith (fun a b : Int => if a ≠ b then -1 else b) z.ms u.y, (b : Int), true⟩, rfl, by have := HAb.out; omega, by have := HAb.out; omega, by have := HAb.out; omega, HUp.out, by show (List.zipWith _ _ _).length = m; rw [List.length_zipWith, HLz.out, HUl.out, Nat.min_self], HYb.out, HSb.out⟩
                    · rw [if_neg hgr] at HUp;have xf5 := HYx.out.soft 5;have xf7 := HYx.out.soft 7
                      go_upto_region 22 with (fail)
                      have HYb := hid (HYx.out.set7 true);have HSb := hid (GC.box_ns (o := 7) HSx.out HYx.out hyb2 (.bool true));clear HYx HSx y0 y1 y2 y3 y4 y5 y6 y7 xf5 xf7;generalize wr.setCell ⟨yb, 7, none⟩ (.bool true) = wz at *;have HGn := hid (HG4.out.below HSb.out.2);obtain ⟨k0, k1, k2⟩ := HGn.out.cells;obtain ⟨t0, t1, _, _⟩ := HGn.out.gp.cells;have z2n := cell_stays HSb.out.2 Z2.out;go_wp2_with fail;go_roundg (ga - 1);case measure => omega
                      case rel => exact ⟨z.ab, ⟨List.zipWith (fun a b : Int => if a ≠ b then -1 else b) z.ms u.y, u.gr, true⟩, rfl, by have := HAb.out; omega, by have := HAb.out; omega, by have := HAb.out; omega, HUp.out, by show (List.zipWith _ _ _).length = m; rw [List.length_zipWith, HLz.out, HUl.out, Nat.min_self], HYb.out, HSb.out⟩
       · have HX := hid (contI_end (N := N) (most := most) (i := i) (k := k) (T := T) (by rw [HLn.out]; omega));have hi20 : i < T.nodes.length := (List.getElem?_eq_some_iff.1 HD.out).1;go_wp2_with fail;go_roundg (go - 1);case measure => have := HK.out; omega
         case rel => exact ⟨i + 1, T, _, vS, NL, SL, by have := HK.out; omega, by go_num, HG.out, HI.out, by omega, by rw [HR.out, HX.out]⟩
   · have HX := hid (contF_end (N := N) (most := most) (i := i) (T := T) (by rw [← HL.out]; omega));obtain ⟨AN, cN, hv, _⟩ := row_slice HG.out.gp.nds;subst hv;go_wp2_with fail;go_ret2;rw [HR.out, HX.out];exact ⟨tb, _, vS, NL, SL, rfl, HG.out.gp.up HBw.out⟩
end Go.Proofs.YtpiihmbeedlpkaaGreatDoor
