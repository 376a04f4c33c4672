/- Lists of numbers, lists of lists, transitions: as they lie in memory; nets, plain. places of both packages: what a call returns. Extended markings, firing, the coverability tree: plain Lean, no program in sight. -/
import Derived.Test.YtpiihmbeedlpkaaGreatDoorPUu
import Derived.Test.YtpiihmbeedlpkaaGreatDoorPCa
namespace Go.Proofs.YtpiihmbeedlpkaaGreatDoor
set_option maxRecDepth 100000
set_option maxHeartbeats 3200000
open Go.Lib (hid)
section
open Go.RowKit

theorem add_zero (g j : Nat) : (⟨g, 0, none⟩ : Addr).add j = ⟨g, 0 + j, none⟩ := by unfold Addr.add; split <;> simp_all
def ZIn (w : World) (A : Option Addr) (Z : List Int) : Prop := ∀ i (h : i < Z.length), ∃ ad, A = some ad ∧ (ad.add i).block < w.heap.size ∧ w.cell? (ad.add i) = some (.int .i64 Z[i])
theorem ZIn.below {w w' : World} {A : Option Addr} {Z : List Int} (h : ZIn w A Z) (hb : Below w.heap.size w w') : ZIn w' A Z := by
 intro i hi;obtain ⟨ad, e, h1, h2⟩ := h i hi;exact ⟨ad, e, by have := hb.size; omega, by rw [hb.cell h1]; exact h2⟩
theorem own_ints {w : World} {b n : Nat} {v : Value} {Z : List Int} (h : w.ownsRow b 3 1 v n (Z.map (Value.int .i64))) :
 ∃ A cap, v = .slice A n cap ∧ ZIn w A Z ∧ Z.length = n ∧ n ≤ cap ∧ cap ≤ 9223372036854775807 ∧ (0 < n → ∃ g, A = some ⟨g, 0, none⟩ ∧ b ≤ g ∧ g < w.heap.size ∧ ∀ j, j < Z.length → w.cell? ⟨g, 0 + j, none⟩ = some (.int .i64 (Z.getD j 0))) := by
 have hl := h.1;rw [List.length_map] at hl;have hln : Z.length = n := by omega
 rcases h.2 with ⟨hv, hn⟩ | ⟨g, cap, cur, hv, hg, hh, hnc, hc, _⟩
 · refine ⟨none, 0, by rw [hv, hn], fun i hi => ?_, hln, by omega, by omega, fun h => ?_⟩
   · omega
   · omega
 · subst hv;have hgl : g < w.heap.size := (Array.getElem?_eq_some_iff.1 hh).1;have hcell : ∀ j (hj : j < Z.length), w.cell? ((⟨g, 0, none⟩ : Addr).add j) = some (.int .i64 Z[j]) := fun j hj =>
    h.cells (g := g) rfl j _ (by simp [hj])
   refine ⟨some ⟨g, 0, none⟩, cap, rfl, fun i hi => ⟨_, rfl, by rw [add_block]; exact hgl, hcell i hi⟩, hln, hnc, hc, fun _ => ⟨g, rfl, hg, hgl, fun j hj => ?_⟩⟩;rw [← add_zero, hcell j hj]; simp [hj]
theorem lit_ints (w : World) (Z : List Int) (h : Z.length ≤ 1000000) : ZIn (w.alloc (.cells (Z.map (Value.int .i64)).toArray 3)) (some ⟨w.heap.size, 0, none⟩) Z := by
 have := World.ownsRow_lit (base := 0) (e := 3) (size := 1) w (Z.map (Value.int .i64)).toArray Z.length (Nat.zero_le _) (by unfold maxLen; omega) (by simp);obtain ⟨A, cap, hv, hz, _⟩ := own_ints (by simpa using this);cases hv;exact hz
def SlIn (w : World) (v : Value) (Z : List Int) : Prop := ∃ A n c, v = .slice A n c ∧ ZIn w A Z ∧ Z.length = n ∧ n ≤ c ∧ c ≤ 9223372036854775807
theorem SlIn.below {w w' : World} {v : Value} {Z : List Int} (h : SlIn w v Z) (hb : Below w.heap.size w w') : SlIn w' v Z := by
 obtain ⟨A, n, c, h1, h2, h3⟩ := h;exact ⟨A, n, c, h1, h2.below hb, h3⟩
def LIn (w : World) (A : Option Addr) (LL : List (List Int)) : Prop :=
 ∀ i (h : i < LL.length), ∃ ad, A = some ad ∧ (ad.add i).block < w.heap.size ∧ ∃ u, w.cell? (ad.add i) = some u ∧ SlIn w u LL[i]
theorem LIn.below {w w' : World} {A : Option Addr} {LL : List (List Int)} (h : LIn w A LL) (hb : Below w.heap.size w w') : LIn w' A LL := by
 intro i hi;obtain ⟨ad, e, h1, u, h2, h3⟩ := h i hi;exact ⟨ad, e, by have := hb.size; omega, u, by rw [hb.cell h1]; exact h2, h3.below hb⟩
structure Tr where
 lb : ByteArray
 i : List Int
 o : List Int
structure Nt where
 pl : Int
 tr : List Tr
 src : Int
 snk : Int
def TrAt (w : World) (p : Addr) (t : Tr) : Prop :=
 w.cell? p = some (.string t.lb) ∧ (∃ u, w.cell? ⟨p.block, p.off + 1, none⟩ = some u ∧ SlIn w u t.i) ∧ ∃ u, w.cell? ⟨p.block, p.off + 1 + 1, none⟩ = some u ∧ SlIn w u t.o
theorem TrAt.below {w w' : World} {p : Addr} {t : Tr} (h : TrAt w p t) (hp : p.block < w.heap.size) (hb : Below w.heap.size w w') : TrAt w' p t := by
 obtain ⟨h1, ⟨u, h2, h3⟩, v, h4, h5⟩ := h;have hk : ∀ q : Addr, q.block = p.block → w'.cell? q = w.cell? q := fun q hq => hb.cell (by rw [hq]; exact hp)
 exact ⟨by rw [hk p rfl]; exact h1, ⟨u, by rw [hk ⟨p.block, p.off + 1, none⟩ rfl]; exact h2, h3.below hb⟩, v, by rw [hk ⟨p.block, p.off + 1 + 1, none⟩ rfl]; exact h4, h5.below hb⟩
def TIn (w : World) (A : Option Addr) (L : List Tr) : Prop :=
 ∀ i (h : i < L.length), ∃ ad, A = some ad ∧ (ad.add (i * 3)).block < w.heap.size ∧ TrAt w (ad.add (i * 3)) L[i]
theorem TIn.below {w w' : World} {A : Option Addr} {L : List Tr} (h : TIn w A L) (hb : Below w.heap.size w w') : TIn w' A L := by
 intro i hi;obtain ⟨ad, e, h1, h2⟩ := h i hi;exact ⟨ad, e, by have := hb.size; omega, h2.below h1 hb⟩
def plAt (n : Int) (l : List Int) (i : Nat) : Bool := match l[i]? with
 | some x => decide (0 ≤ x) && (decide (x < n) && (match i with | 0 => true | j + 1 => match l[j]? with | some y => decide (y < x) | none => true))
 | none => true
def plTo (n : Int) (l : List Int) (k : Nat) : Bool := (List.range k).all (plAt n l)
def plB (n : Int) (l : List Int) : Bool := plTo n l l.length
theorem plTo_zero (n : Int) (l : List Int) : plTo n l 0 = true := rfl
theorem plTo_succ (n : Int) (l : List Int) (k : Nat) : plTo n l (k + 1) = (plTo n l k && plAt n l k) := by
 unfold plTo; rw [List.range_succ, List.all_append]; simp
theorem plTo_le (n : Int) (l : List Int) (k m : Nat) (h : k ≤ m) (hm : plTo n l m = true) : plTo n l k = true := by
 unfold plTo at *;rw [List.all_eq_true] at *;intro i hi;exact hm i (by rw [List.mem_range] at *; omega)
theorem plB_no (n : Int) (l : List Int) (k : Nat) (h : k < l.length) (hk : plAt n l k = false) : plB n l = false := by
 cases hb : plB n l with
 | false => rfl
 | true =>
  have := plTo_le n l (k + 1) l.length (by omega) hb;rw [plTo_succ, hk] at this; simp at this
theorem plAt_zero (n : Int) (l : List Int) (h : 0 < l.length) : plAt n l 0 = (decide (0 ≤ l[0]) && decide (l[0] < n)) := by
 unfold plAt; rw [List.getElem?_eq_getElem h]; simp
theorem plAt_succ (n : Int) (l : List Int) (j : Nat) (h : j + 1 < l.length) : plAt n l (j + 1) = (decide (0 ≤ l[j + 1]) && (decide (l[j + 1] < n) && decide (l[j] < l[j + 1]))) := by
 unfold plAt; rw [List.getElem?_eq_getElem h]; simp only; rw [List.getElem?_eq_getElem (by omega : j < l.length)]
theorem plB_at (n : Int) (l : List Int) (k : Nat) (h : k < l.length) (hb : plB n l = true) : 0 ≤ l[k] ∧ l[k] < n := by
 have := plTo_le n l (k + 1) l.length (by omega) hb;rw [plTo_succ, Bool.and_eq_true] at this;have h2 := this.2;unfold plAt at h2;rw [List.getElem?_eq_getElem h] at h2;simp only [Bool.and_eq_true, decide_eq_true_eq] at h2;exact ⟨h2.1, h2.2.1⟩
theorem plB_lt (n : Int) (l : List Int) (j : Nat) (h : j + 1 < l.length) (hb : plB n l = true) : l[j] < l[j + 1] := by
 have := plTo_le n l (j + 1 + 1) l.length (by omega) hb;rw [plTo_succ, Bool.and_eq_true] at this;have h2 := this.2;rw [plAt_succ n l j h] at h2;simp only [Bool.and_eq_true, decide_eq_true_eq] at h2;exact h2.2.2
def trB (n : Int) (t : Tr) : Bool := (t.lb.data.toList.isEmpty || isNameB t.lb.data.toList) && (plB n t.i && plB n t.o)
def ntB (N : Nt) : Bool := decide (1 ≤ N.pl ∧ N.pl ≤ 40 ∧ N.tr.length ≤ 60) && (N.tr.all (trB N.pl) && decide (0 ≤ N.src ∧ N.src < N.pl ∧ 0 ≤ N.snk ∧ N.snk < N.pl))
end
section
open Go.RowKit

def NB (w : World) (b : Nat) (pl : Int) (A : Option Addr) (n c : Nat) (src snk : Int) : Prop := w.heap[b]? = some (.cells #[.int .i64 pl, .slice A n c, .int .i64 src, .int .i64 snk] 30 (0, 0))
section
variable {w w' : World} {b : Nat} {pl : Int} {A : Option Addr} {n c : Nat} {src snk : Int}
theorem NB.lt (h : NB w b pl A n c src snk) : b < w.heap.size := (Array.getElem?_eq_some_iff.1 h).1
theorem NB.cells (h : NB w b pl A n c src snk) : w.cell? ⟨b, 0, none⟩ = some (.int .i64 pl) ∧ w.cell? ⟨b, 1, none⟩ = some (.slice A n c) ∧ w.cell? ⟨b, 2, none⟩ = some (.int .i64 src) ∧ w.cell? ⟨b, 3, none⟩ = some (.int .i64 snk) := by
 unfold NB at h;simp [World.cell?, h]
theorem NB.below (h : NB w b pl A n c src snk) (hb : Below w.heap.size w w') : NB w' b pl A n c src snk := by
 have hl := h.lt;unfold NB at h ⊢;rw [hb.block b hl]; exact h
end
theorem NB.new (w : World) (pl : Int) (A : Option Addr) (n c : Nat) (src snk : Int) : NB (w.alloc (.cells #[.int .i64 pl, .slice A n c, .int .i64 src, .int .i64 snk] 30)) w.heap.size pl A n c src snk := heap_alloc_new w _
theorem add_prev (ad : Addr) (j : Nat) : ad.add (j + 1) = ⟨ad.block, ad.off + (j + 1), none⟩ := by unfold Addr.add; rw [if_neg (by omega)]
theorem pplaces_any (pl : Int) (A : Option Addr) (n c : Nat) (src snk : Int) (Al : Option Addr) (m cl : Nat) (l : List Int) (w : World) (h : ZIn w Al l) (hm : l.length = m) (hmb : m ≤ 9223372036854775807) :
 Calls Tryz.prog 56 #[.agg #[.int .i64 pl, .slice A n c, .int .i64 src, .int .i64 snk], .slice Al m cl] w fun e w' => e = .returned (.bool (plB pl l)) ∧ Below w.heap.size w w' := by
 have HB := hid (below_alloc w (.cells #[.int .i64 pl, .slice A n c, .int .i64 src, .int .i64 snk] 30));have HN := hid (NB.new w pl A n c src snk);have H0 := hid (h.below HB.out);have HM := hid hm;clear h hm;go_enter Tryz.func56, Tryz.ntmps56;go_wp2_with fail;generalize w.alloc _ = w0 at HB HN H0 ⊢;go_loopg [9] (m) (fun g iv wr => ∃ k : Nat, k + g = m ∧ iv = .int .i64 k ∧ plTo pl l k = true ∧ w0 = wr);case atStart => exact ⟨0, by omega, rfl, rfl, rfl⟩
 case round =>
  obtain ⟨k, hk, rfl, hp, rfl⟩ := hrel;have HK := hid hk;have HP := hid hp;have hle : k ≤ m := by omega
  clear hk hp;obtain ⟨c0, c1, c2, c3⟩ := HN.out.cells;by_cases hlt : k < m
  · have hlt' : k < l.length := by rw [HM.out]; exact hlt
    obtain ⟨ad, rfl, hpa, q0⟩ := H0.out k hlt';have HNo := hid (plB_no pl l k hlt');have HSu := hid (plTo_succ pl l k);have HZ := hid (fun (h0 : k = 0) => show plAt pl l k = (decide (0 ≤ l[k]) && decide (l[k] < pl)) by subst h0; exact plAt_zero pl l hlt');have HY := hid (fun j (hj : j + 1 = k) => show ∃ y : Int, w0.cell? (ad.add j) = some (.int .i64 y) ∧ plAt pl l k = (decide (0 ≤ l[k]) && (decide (l[k] < pl) && decide (y < l[k]))) by
     subst hj;obtain ⟨ad', had, _, q⟩ := H0.out j (by omega);cases had;exact ⟨l[j], q, plAt_succ pl l j hlt'⟩)
    generalize l[k] = x at *;clear hlt';by_cases hx0 : x < 0
    · have HV := hid (show plB pl l = false from HNo.out (by
       cases k with
       | zero => rw [HZ.out rfl, decide_eq_false (by omega)]; rfl
       | succ j => obtain ⟨y, _, e⟩ := HY.out j rfl; rw [e, decide_eq_false (by omega)]; rfl))
      clear HZ HY HSu;go_wp2_with fail;go_ret;exact ⟨ret_bool HV.out.symm, HB.out⟩
    · have d0 : decide (x < 0) = false := by simpa using hx0
      by_cases hx1 : pl ≤ x
      · have HV := hid (show plB pl l = false from HNo.out (by
         have e1 : decide (x < pl) = false := decide_eq_false (by omega);cases k with
         | zero => rw [HZ.out rfl, e1, Bool.and_false]
         | succ j => obtain ⟨y, _, e⟩ := HY.out j rfl; rw [e, e1, Bool.false_and, Bool.and_false]))
        clear HZ HY HSu;go_wp2_with fail;go_ret;exact ⟨ret_bool HV.out.symm, HB.out⟩
      · have d1 : decide (pl ≤ x) = false := by simpa using hx1
        have e0 : decide (0 ≤ x) = true := decide_eq_true (by omega);have e1 : decide (x < pl) = true := decide_eq_true (by omega);cases k with
        | zero =>
         have HV := hid (show plTo pl l 1 = true by rw [HSu.out, HP.out, HZ.out rfl, e0, e1]; rfl);clear HZ HY HSu e0 e1 hx0 hx1;have q0' : w0.cell? ad = some (.int .i64 x) := by simpa [Addr.add] using q0
         clear q0;go_wp2_with fail;go_roundg (gk - 1);case measure => have := HK.out; omega
         case rel => exact ⟨1, by have := HK.out; omega, by go_num, HV.out, rfl⟩
        | succ j =>
         obtain ⟨y, qy, e⟩ := HY.out j rfl;have HE := hid e;clear HY HZ e;by_cases hxy : x ≤ y
         · have HV := hid (show plB pl l = false from HNo.out (by rw [HE.out, decide_eq_false (show ¬ y < x by omega), Bool.and_false, Bool.and_false]));clear HSu e0 e1 hx0 hx1;rw [add_prev] at q0;go_wp2_with fail;go_ret;exact ⟨ret_bool HV.out.symm, HB.out⟩
         · have dxy : decide (x ≤ y) = false := by simpa using hxy
           have HV := hid (show plTo pl l (j + 1 + 1) = true by rw [HSu.out, HP.out, HE.out, e0, e1, decide_eq_true (show y < x by omega)]; rfl);clear HSu e0 e1 hx0 hx1 hxy;rw [add_prev] at q0;go_wp2_with fail;go_roundg (gk - 1);case measure => have := HK.out; omega
           case rel => exact ⟨j + 1 + 1, by have := HK.out; omega, by go_num, HV.out, rfl⟩
  · have HV := hid (show plB pl l = true by
     have := HP.out;unfold plB;rwa [show k = l.length by rw [HM.out]; omega] at this)
    go_wp2_with fail;go_ret;exact ⟨ret_bool HV.out.symm, HB.out⟩
end
section
def lessE (a b : Int) : Bool := decide (b = -1) || (decide (a ≠ -1) && decide (a ≤ b))
def atM (x y : List Int) (i : Nat) : Bool := lessE (x.getD i 0) (y.getD i 0)
def atMTo (x y : List Int) (k : Nat) : Bool := (List.range k).all (atM x y)
def atMost (x y : List Int) : Bool := atMTo x y x.length
theorem atMTo_succ (x y : List Int) (k : Nat) : atMTo x y (k + 1) = (atMTo x y k && atM x y k) := by
 unfold atMTo; rw [List.range_succ, List.all_append]; simp
theorem atMTo_le (x y : List Int) (k m : Nat) (h : k ≤ m) (hm : atMTo x y m = true) : atMTo x y k = true := by
 unfold atMTo at *;rw [List.all_eq_true] at *;intro i hi;exact hm i (by rw [List.mem_range] at *; omega)
theorem atMost_no (x y : List Int) (k : Nat) (h : k < x.length) (hk : atM x y k = false) : atMost x y = false := by
 cases hb : atMost x y with
 | false => rfl
 | true =>
  have := atMTo_le x y (k + 1) x.length (by omega) hb;rw [atMTo_succ, hk] at this; simp at this
def canT (t : Tr) (m : List Int) : Bool := t.i.all fun p => decide (m.getD p.toNat 0 ≠ 0)
def dec1 (x : Int) : Int := if x = -1 then -1 else x - 1
def inc1 (x : Int) : Int := if x = -1 then -1 else x + 1
def decs (m l : List Int) : List Int := l.foldl (fun m p => m.set p.toNat (dec1 (m.getD p.toNat 0))) m
def incs (m l : List Int) : List Int := l.foldl (fun m p => m.set p.toNat (inc1 (m.getD p.toNat 0))) m
def fireT (t : Tr) (m : List Int) : List Int := incs (decs m t.i) t.o
def bigM (m : List Int) : Bool := m.any fun x => decide (100 < x)
theorem decs_len (l : List Int) : ∀ m, (decs m l).length = m.length := by
 induction l with
 | nil => intro m; rfl
 | cons p l ih => intro m; show (decs _ l).length = _; rw [ih, List.length_set]
theorem incs_len (l : List Int) : ∀ m, (incs m l).length = m.length := by
 induction l with
 | nil => intro m; rfl
 | cons p l ih => intro m; show (incs _ l).length = _; rw [ih, List.length_set]
theorem fireT_len (t : Tr) (m : List Int) : (fireT t m).length = m.length := by unfold fireT; rw [incs_len, decs_len]
theorem decs_snoc (m l : List Int) (k : Nat) (h : k < l.length) : decs m (l.take (k + 1)) = (decs m (l.take k)).set l[k].toNat (dec1 ((decs m (l.take k)).getD l[k].toNat 0)) := by
 unfold decs; rw [List.take_succ_eq_append_getElem h, List.foldl_append]; rfl
theorem incs_snoc (m l : List Int) (k : Nat) (h : k < l.length) : incs m (l.take (k + 1)) = (incs m (l.take k)).set l[k].toNat (inc1 ((incs m (l.take k)).getD l[k].toNat 0)) := by
 unfold incs; rw [List.take_succ_eq_append_getElem h, List.foldl_append]; rfl
structure Nd where
 pn : List Int
 ms : List Int
 ab : Int
 tr : Int
 st : Nat
 gr : Int
 nw : Bool
 om : Bool
structure TS where
 nodes : List Nd
 states : List (List Int)
def lift1 (z y : List Int) : List Int := if atMost z y && decide (z ≠ y) then List.zipWith (fun a b => if a ≠ b then -1 else b) z y else y
def stIdx (T : TS) (m : List Int) : Nat := T.states.findIdx fun s => decide (s = m)
def addN (most : Nat) (T : TS) (x : Nd) : Option TS :=
 if stIdx T x.ms = T.states.length then
  (if T.states.length = most then none else if 20000 < T.nodes.length then none else some ⟨T.nodes ++ [⟨x.pn, x.ms, x.ab, x.tr, T.states.length, x.gr, true, x.om⟩], T.states ++ [x.ms]⟩)
 else (if 20000 < T.nodes.length then none else some ⟨T.nodes ++ [⟨x.pn, x.ms, x.ab, x.tr, stIdx T x.ms, x.gr, false, x.om⟩], T.states⟩)
structure Up where
 y : List Int
 gr : Int
 om : Bool
def upOne (z : List Int) (a : Nat) (u : Up) : Up := if atMost z u.y && decide (z ≠ u.y) then ⟨lift1 z u.y, if u.gr < 0 then (a : Int) else u.gr, true⟩ else u
def upAll (N : List Nd) : Nat → Int → Up → Up
 | 0, _, u => u
 | f + 1, a, u => if a < 0 then u else match N[a.toNat]? with
  | some d => upAll N f d.ab (upOne d.ms a.toNat u)
  | none => u
def stepK (N : Nt) (most : Nat) (i : Nat) (T : TS) (k : Nat) : Option TS := match T.nodes[i]?, N.tr[k]? with
 | some d, some t => if canT t d.ms then
  (if bigM (fireT t d.ms) then none else
   let u := upAll T.nodes (i + 1) i ⟨fireT t d.ms, -1, false⟩
   addN most T ⟨fireT t d.ms, u.y, i, k, 0, u.gr, false, u.om⟩)
  else some T
 | _, _ => some T
def stepI (N : Nt) (most i : Nat) : Nat → Nat → TS → Option TS
 | 0, _, T => some T
 | f + 1, k, T => if k < N.tr.length then (match stepK N most i T k with | some T' => stepI N most i f (k + 1) T' | none => none) else some T
def growF (N : Nt) (most : Nat) : Nat → Nat → TS → Option TS
 | 0, _, T => some T
 | f + 1, i, T => match T.nodes[i]? with
  | some d => if d.nw then (match stepI N most i (N.tr.length + 1) 0 T with | some T' => growF N most f (i + 1) T' | none => none) else growF N most f (i + 1) T
  | none => some T
def growT (N : Nt) (m : List Int) (most : Nat) : Option TS := match addN most ⟨[], []⟩ ⟨m, m, -1, -1, 0, -1, false, false⟩ with
 | some T => growF N most 20002 0 T
 | none => none
end
end Go.Proofs.YtpiihmbeedlpkaaGreatDoor
