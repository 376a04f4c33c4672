/- Fault, HasOmega, SameSpace of reference 24: what a call returns. SameSpace of reference 24: what a call returns. cover.Covers: the closure, and what its loops keep. The certificates of Bounded prove their claims: plain. ContainsFunc on transitions; small of the statements: what a call returns. -/
import Derived.Test.YtkhmngljpfibcaaGreatDoorPUu
import Derived.Test.YtkhmngljpfibcaaGreatDoorPDr
import Derived.Test.YtkhmngljpfibcaaGreatDoorPDe
import Derived.Test.YtkhmngljpfibcaaGreatDoorPBg
import Derived.Test.YtkhmngljpfibcaaGreatDoorPQj
import Derived.Test.YtkhmngljpfibcaaGreatDoorPHd
import Derived.Laws.StructEq
namespace Go.Proofs.YtkhmngljpfibcaaGreatDoor
set_option maxRecDepth 100000
set_option maxHeartbeats 6400000
open Go.Lib (hid)
section
open Go.RowKit

def omB (ST : List (List Int)) : Bool := ST.any hasO
theorem hasO_take {L : List Int} {k : Nat} (h : k < L.length) : hasO (L.take (k + 1)) = (hasO (L.take k) || decide (L[k] = -1)) := by
 unfold hasO; rw [List.take_succ_eq_append_getElem h, List.any_append]; simp
theorem hasO_at {L : List Int} {k : Nat} (h : k < L.length) (hk : L[k] = -1) : hasO L = true := by
 unfold hasO; rw [List.any_eq_true]; exact ⟨_, List.getElem_mem h, decide_eq_true hk⟩
theorem omB_at {LL : List (List Int)} {k : Nat} (h : k < LL.length) (hk : hasO LL[k] = true) : omB LL = true := by
 unfold omB; rw [List.any_eq_true]; exact ⟨_, List.getElem_mem h, hk⟩
theorem omB_take {LL : List (List Int)} {k : Nat} (h : k < LL.length) : omB (LL.take (k + 1)) = (omB (LL.take k) || hasO LL[k]) := by
 unfold omB; rw [List.take_succ_eq_append_getElem h, List.any_append]; simp
theorem SpB.new (w : World) (vS vM : Value) (fl : Bool) : SpB (w.alloc (.cells #[vS, vM, .bool fl] 41)) w.heap.size vS vM fl := heap_alloc_new w _
theorem hasOmega_any (v : Value) (LL : List (List Int)) (MV : List Mv) (fl : Bool) (w : World) (h : SpIn w v LL MV fl) :
 Calls Tryz.prog 57 #[v] w fun e w' => e = .returned (.bool (omB LL)) ∧ Below w.heap.size w w' := by
 obtain ⟨A, c, A', c', rfl, hl, hll, _, _⟩ := h;have HB := hid (below_alloc w (.cells #[.slice A LL.length c, .slice A' MV.length c', .bool fl] 41));have HX := hid (SpB.new w (.slice A LL.length c) (.slice A' MV.length c') fl);have HL := hid (hl.below HB.out);clear hl;obtain ⟨n, hn⟩ : ∃ n, n = LL.length := ⟨_, rfl⟩;have HN := hid hn.symm;rw [← hn] at HB HX HL hll ⊢;clear hn;go_enter Tryz.func57, Tryz.ntmps57;go_wp2_with fail;generalize w.alloc _ = w0 at *;go_loopg [3] (n) (fun g iv wr => ∃ k : Nat, k + g = n ∧ iv = .int .i64 k ∧ omB (LL.take k) = false ∧ Below w0.heap.size w0 wr);case atStart => exact ⟨0, by omega, rfl, rfl, Below.refl _ _⟩
 case round =>
  obtain ⟨k, hk, rfl, hp, hB⟩ := hrel;have HK := hid hk;have HP := hid hp;have HBr := hid hB;have HLr := hid (HL.out.below hB);have hle : k ≤ n := by omega
  obtain ⟨x0, x1, x2⟩ := (HX.out.below hB).cells;clear hk hp hB;by_cases hlt : k < n
  · have hlt' : k < LL.length := by rw [HN.out]; exact hlt
    obtain ⟨ad, rfl, hpa, u, q0, Ax, nx, cx, rfl, zx, hx1, hx2, hx3⟩ := HLr.out k hlt';have HOm := hid (omB_take hlt');have HAt := hid (omB_at hlt');generalize LL[k] = X at *;have HZ := hid zx;have HXl := hid hx1;clear hlt' zx hx1;obtain ⟨go, rfl⟩ : ∃ go, go = gk := ⟨_, rfl⟩;obtain ⟨wo, rfl⟩ : ∃ wo : World, wo = wr := ⟨_, rfl⟩;go_wp2_with fail;go_loopg [4] (nx) (fun g iv wx => ∃ j : Nat, j + g = nx ∧ iv = .int .i64 j ∧ hasO (X.take j) = false ∧ wo = wx);case atStart => exact ⟨0, by omega, rfl, rfl, rfl⟩
    case round =>
     obtain ⟨j, hj, rfl, hq, rfl⟩ := hrel;have HJ := hid hj;have HQ := hid hq;have hjl : j ≤ nx := by omega
     clear hj hq;by_cases hjt : j < nx
     · have hjt' : j < X.length := by rw [HXl.out]; exact hjt
       obtain ⟨ae, rfl, hpe, q5⟩ := HZ.out j hjt';have HTk := hid (hasO_take hjt');have HJa := hid (hasO_at hjt');generalize X[j] = x at *;by_cases hx : x = -1
       · have q1 : (x == -1) = true := by rw [hx]; rfl
         have HV := hid (HAt.out (HJa.out hx));clear hx HAt;go_wp2_with fail;go_ret;exact ⟨ret_bool HV.out.symm, HB.out.trans (HBr.out.mono HB.out.size)⟩
       · have q1 : (x == -1) = false := by simpa using hx
         have HV := hid (show hasO (X.take (j + 1)) = false by rw [HTk.out, HQ.out]; simpa using hx);clear hx;go_wp2_with fail;go_roundg (gk - 1);case measure => have := HJ.out; omega
         case rel => exact ⟨j + 1, by have := HJ.out; omega, by go_num, HV.out, rfl⟩
     · have HV := hid (show omB (LL.take (k + 1)) = false by
        rw [HOm.out, HP.out];have := HQ.out;rw [List.take_of_length_le (by rw [HXl.out]; omega)] at this;rw [this]; rfl)
       go_wp2_with fail;go_roundg (go - 1);case measure => have := HK.out; omega
       case rel => exact ⟨k + 1, by have := HK.out; omega, by go_num, HV.out, HBr.out⟩
  · have HV := hid (show omB LL = false by have := HP.out; rwa [List.take_of_length_le (by rw [HN.out]; omega)] at this);go_wp2_with fail;go_ret;exact ⟨ret_bool HV.out.symm, HB.out.trans (HBr.out.mono HB.out.size)⟩
instance : DecidableEq Mv := fun a b => by
 cases a; cases b;simp only [Mv.mk.injEq]
 infer_instance
end
section
open Go.RowKit

theorem mv_cells {w : World} {A : Option Addr} {MV : List Mv} (h : Rd mvC 3 w A MV) {k : Nat} (hk : k < MV.length) :
 ∃ ad, A = some ad ∧ (ad.add (k * 3)).block < w.heap.size ∧ w.cell? (ad.add (k * 3)) = some (.int .i64 MV[k].f) ∧ w.cell? ⟨(ad.add (k * 3)).block, (ad.add (k * 3)).off + 1, none⟩ = some (.int .i64 MV[k].t) ∧ w.cell? ⟨(ad.add (k * 3)).block, (ad.add (k * 3)).off + 1 + 1, none⟩ = some (.int .i64 MV[k].s) := by
 obtain ⟨ad, e, h1, h2⟩ := h k hk;refine ⟨ad, e, h1, h2 0 _ (by omega) rfl, ?_, ?_⟩
 · have := h2 1 _ (by omega) rfl;rwa [add_at _ _ _ (by omega)] at this
 · have := h2 2 _ (by omega) rfl;rwa [add_at _ _ _ (by omega)] at this
end
section
open Go.RowKit

def fill1 (n k : Nat) : List Int := List.replicate k (-1) ++ List.replicate (n - k) 0
theorem fill1_len (n k : Nat) (h : k ≤ n) : (fill1 n k).length = n := by unfold fill1; simp; omega
theorem fill1_set (n k : Nat) (h : k < n) : (fill1 n k).set k (-1) = fill1 n (k + 1) := by
 apply List.ext_getElem?;intro j;unfold fill1;rw [List.getElem?_set];by_cases e : k = j
 · subst e;rw [if_pos rfl, if_pos (by simp; omega), List.getElem?_append_left (by simp)];simp
 · rw [if_neg e];rcases Nat.lt_or_ge j k with hj | hj
   · rw [List.getElem?_append_left (by simpa using hj), List.getElem?_append_left (by simp; omega)];simp [hj, show j < k + 1 by omega]
   · rw [List.getElem?_append_right (by simpa using hj), List.getElem?_append_right (by simp; omega)];simp only [List.length_replicate];rw [List.getElem?_replicate, List.getElem?_replicate];by_cases h2 : j < n
     · rw [if_pos (by omega), if_pos (by omega)]
     · rw [if_neg (by omega), if_neg (by omega)]
theorem fill1_full (n : Nat) : fill1 n n = List.replicate n (-1) := by simp [fill1]
theorem NS.made (w : World) (n : Nat) (hn : n ≤ 1000000) : NS w (w.alloc (.cells (madeCells #[.int .i64 0] n) 3)) (.slice (some ⟨w.heap.size, 0, none⟩) n n) (fill1 n 0) := by
 have ho := World.ownsRow_lit (base := w.heap.size) (e := 3) (size := 1) w (madeCells #[.int .i64 0] n) n (Nat.le_refl _) (by unfold maxLen; omega) (by simp [madeCells]);rw [toList_madeCells_one] at ho;refine ⟨?_, below_alloc w _⟩;rw [fill1_len n 0 (Nat.zero_le _)];have e : (fill1 n 0).map (Value.int .i64) = List.replicate n (.int .i64 0) := by unfold fill1; simp
 rw [e]; exact ho
def FiI (n : Nat) (w1 : World) (fb g : Nat) (iv : Value) (wr : World) : Prop :=
 ∃ k : Nat, k + g = n ∧ iv = .int .i64 (k : Int) ∧ NS w1 wr (.slice (some ⟨fb, 0, none⟩) n n) (fill1 n k)
def QR (U : Nat) (wr : World) (v : Value) (Q : List Int) : Prop := wr.ownsRow U 3 1 v Q.length (Q.map (Value.int .i64))
structure BS (MV : List Mv) (goal n : Nat) (LL : List (List Int)) (w1 : World) (B U fb gb : Nat) (SL : List Value) (F Q : List Int) (i : Nat) (part : List Int) (qv : Value) (wr : World) : Prop where
 bi : BI MV goal n F Q i part
 far : NS w1 wr (.slice (some ⟨fb, 0, none⟩) n n) F
 que : QR U wr qv Q
 bk : BK B wr (.slice (some ⟨gb, 0, none⟩) n n) SL LL
 il : i ≤ Q.length
 us : U ≤ wr.heap.size
def QuI (MV : List Mv) (goal n : Nat) (LL : List (List Int)) (w1 : World) (B U fb gb : Nat) (SL : List Value) (g : Nat) (iv qv : Value) (wr : World) : Prop :=
 ∃ (i : Nat) (F Q : List Int), i + g = n ∧ iv = .int .i64 (i : Int) ∧ BS MV goal n LL w1 B U fb gb SL F Q i [] qv wr
def Qu2 (MV : List Mv) (goal n : Nat) (LL : List (List Int)) (w1 : World) (B U fb gb : Nat) (SL : List Value) (i : Nat) (c : Int) (s : List Int) (g : Nat) (jv qv : Value) (wr : World) : Prop :=
 ∃ (j : Nat) (F Q : List Int), j + g = s.length ∧ jv = .int .i64 (j : Int) ∧ Q[i]? = some c ∧ BS MV goal n LL w1 B U fb gb SL F Q i (s.take j) qv wr
theorem BS.lower {MV : List Mv} {goal n : Nat} {LL : List (List Int)} {w1 : World} {B U fb gb : Nat} {SL : List Value} {F Q : List Int} {i : Nat} {part : List Int} {qv : Value} {wr w' : World} (h : BS MV goal n LL w1 B U fb gb SL F Q i part qv wr) (hn : mvOk MV n)
 (hU : (∀ g, (Value.slice (some ⟨gb, 0, none⟩) n n).ownBlock = some g → B ≤ g ∧ g < U) ∧ ∀ (k : Nat) (x : Value) (g : Nat), SL[k]? = some x → x.ownBlock = some g → B ≤ g ∧ g < U) (hfb : fb < B) (hBU : B ≤ U) (hw1 : w1.heap.size ≤ fb)
 {c : Int} (hc : Q[i]? = some c) {x : Mv} (hx : x ∈ MV) (ht : x.t = c) (hneg : fd F x.f < 0) {o : Obj} {v' : Value}
 (ho : w'.ownsRow U 3 1 v' (Q.length + 1) (Q.map (Value.int .i64) ++ [.int .i64 x.f])) (hg : ((wr.setCell ⟨fb, x.f.toNat, none⟩ (.int .i64 (fd F c + 1))).alloc o).grownBy w' qv.ownBlock) :
 BS MV goal n LL w1 B U fb gb SL (F.set x.f.toNat (fd F c + 1)) (Q ++ [x.f]) i (part ++ [x.f]) v' w' := by
 have h1 := h.bi.pred hc hx ht hn;rw [if_pos hneg, if_pos hneg] at h1;have hset : wr.grownBy (wr.setCell ⟨fb, x.f.toNat, none⟩ (.int .i64 (fd F c + 1))) (some fb) := Lib.grownBy_setB (grown_refl wr (some fb)) x.f.toNat _;have hf := h.far.set hw1 x.f.toNat (fd F c + 1);have hfa := hf.below (below_alloc _ o);have hq : ∀ g, qv.ownBlock = some g → U ≤ g := fun g hg => (h.que.lt g hg).1
 refine ⟨h1, hfa.kept hg (.inr fun e => ?_) (fun k hk => ?_), ?_, ?_, by rw [List.length_append]; have := h.il; omega, ?_⟩
 · have := hq fb e.symm; omega
 · have := hq k hk; omega
 · unfold QR; rw [List.length_append, List.map_append]; exact ho
 · have h2 := h.bk.far hU hset (fun g hg => by cases hg; exact .inl hfb);exact (h2.below (below_alloc _ o)).far hU hg (fun g hg => .inr (hq g hg))
 · have := h.us; have := hg.size; simp at this; omega
theorem BS.same {MV : List Mv} {goal n : Nat} {LL : List (List Int)} {w1 : World} {B U fb gb : Nat} {SL : List Value} {F Q : List Int} {i : Nat} {part : List Int} {qv : Value} {wr : World} (h : BS MV goal n LL w1 B U fb gb SL F Q i part qv wr) (hn : mvOk MV n)
 {c : Int} (hc : Q[i]? = some c) {x : Mv} (hx : x ∈ MV) (ht : x.t = c) (hneg : ¬ fd F x.f < 0) : BS MV goal n LL w1 B U fb gb SL F Q i (part ++ [x.f]) qv wr := by
 have h1 := h.bi.pred hc hx ht hn;rw [if_neg hneg, if_neg hneg] at h1;exact ⟨h1, h.far, h.que, h.bk, h.il, h.us⟩
theorem QR.slice {U : Nat} {wr : World} {v : Value} {Q : List Int} (h : QR U wr v Q) : ∃ A c, v = .slice A Q.length c := by
 rcases h.2 with ⟨rfl, h0⟩ | ⟨g, cap, cur, rfl, _⟩
 · exact ⟨none, 0, by rw [h0]⟩
 · exact ⟨_, cap, rfl⟩
theorem QR.at_ {U : Nat} {wr : World} {v : Value} {Q : List Int} (h : QR U wr v Q) {i : Nat} {c : Int} (hc : Q[i]? = some c) : ∃ g cap, v = .slice (some ⟨g, 0, none⟩) Q.length cap ∧ U ≤ g ∧ g < wr.heap.size ∧ wr.cell? ⟨g, i, none⟩ = some (.int .i64 c) := by
 have hl := (List.getElem?_eq_some_iff.1 hc).1;obtain ⟨A, cap, rfl, hA⟩ := row_slice h;obtain ⟨g, rfl, h1, h2⟩ := hA (by omega);refine ⟨g, cap, rfl, h1, h2, ?_⟩;have hq := h.cells (g := g) rfl i (.int .i64 c) (by rw [List.getElem?_map, hc]; rfl);have ha : (⟨g, 0, none⟩ : Addr).add i = ⟨g, i, none⟩ := by unfold Addr.add; split <;> simp_all
 rw [ha] at hq; exact hq
theorem NS.fdc {w wr : World} {g n cap : Nat} {F : List Int} (h : NS w wr (.slice (some ⟨g, 0, none⟩) n cap) F) (hl : F.length = n) (p : Nat) (hp : p < n) :
 wr.cell? ⟨g, p, none⟩ = some (.int .i64 (fd F p)) ∧ wr.frozen? ⟨g, p, none⟩ = false := by
 have hpl : p < F.length := by rw [hl]; exact hp
 obtain ⟨h1, h2⟩ := h.cells p hpl;have e : fd F p = F[p] := by unfold fd; simp [hpl]
 exact ⟨by rw [e]; exact h1, h2⟩
end
section
theorem addN_le {most : Nat} {T T' : TS} {x : Nd} (h : addN most T x = some T') (hl : T.states.length ≤ most) : T'.states.length ≤ most := by
 unfold addN at h;split at h
 · split at h
   · cases h
   · split at h
     · cases h
     · cases h; simp; omega
 · split at h
   · cases h
   · cases h; exact hl
theorem stepK_le {N : Nt} {most i k : Nat} {T T' : TS} (h : stepK N most i T k = some T') (hl : T.states.length ≤ most) : T'.states.length ≤ most := by
 unfold stepK at h;split at h
 · split at h
   · split at h
     · cases h
     · exact addN_le h hl
   · cases h; exact hl
 · cases h; exact hl
theorem stepI_le {N : Nt} {most i : Nat} : ∀ (f k : Nat) (T T' : TS), stepI N most i f k T = some T' → T.states.length ≤ most → T'.states.length ≤ most := by
 intro f
 induction f with
 | zero => intro k T T' h hl; unfold stepI at h; cases h; exact hl
 | succ f ih =>
  intro k T T' h hl;unfold stepI at h;split at h
  · cases hs : stepK N most i T k with
    | none => rw [hs] at h; cases h
    | some T1 =>
     rw [hs] at h;exact ih _ _ _ h (stepK_le hs hl)
  · cases h; exact hl
theorem growF_le {N : Nt} {most : Nat} : ∀ (f i : Nat) (T T' : TS), growF N most f i T = some T' → T.states.length ≤ most → T'.states.length ≤ most := by
 intro f
 induction f with
 | zero => intro i T T' h hl; unfold growF at h; cases h; exact hl
 | succ f ih =>
  intro i T T' h hl;unfold growF at h;split at h
  · split at h
    · cases hs : stepI N most i (N.tr.length + 1) 0 T with
      | none => rw [hs] at h; cases h
      | some T1 =>
       rw [hs] at h;exact ih _ _ _ h (stepI_le _ _ _ _ hs hl)
    · exact ih _ _ _ h hl
  · cases h; exact hl
theorem growT_le {N : Nt} {m : List Int} {most : Nat} {T : TS} (h : growT N m most = some T) : T.states.length ≤ most := by
 unfold growT at h;cases hs : addN most ⟨[], []⟩ ⟨m, m, -1, -1, 0, -1, false, false⟩ with
 | none => rw [hs] at h; cases h
 | some T1 =>
  rw [hs] at h;exact growF_le _ _ _ _ h (addN_le hs (Nat.zero_le _))
theorem mk_of {N : Nt} {M s : List Int} (h : mkB N M = true) (hl : s.length = M.length) (hs : isM s) : mkB N s = true := by
 unfold mkB;have hn : s.any badK = false := by
  rw [List.any_eq_false];intro x hx;obtain ⟨p, hp, rfl⟩ := List.getElem_of_mem hx;have h1 := hs p;have e : s.getD p 0 = s[p] := by simp [hp]
  rw [e] at h1;unfold badK; simp; omega
 rw [mk_nt h, hl, mk_len h, hn]; simp
theorem om_cert {N : Nt} {M : List Int} {most : Nat} {T : TS} {i : Nat} {d : Nd} {g : Nat} {z : Nd} {W1 W2 : List Nat} {p : Nat} (hv : mkB N M = true) (hg : growT N M most = some T) (hm : most ≤ 1000) (hf : FOm N T i d g z W1 W2 p) :
 chkB N M ⟨6, p, W1.map Int.ofNat, W2.map Int.ofNat, []⟩ = true ∧ fitB ⟨6, p, W1.map Int.ofNat, W2.map Int.ofNat, []⟩ = true ∧ omB T.states = true ∧ (run21 N M (W1.map Int.ofNat)) = (z.ms, W1.length, 0) ∧ run21 N z.ms (W2.map Int.ofNat) = (d.pn, W2.length, 0) ∧ z.ms.length = M.length ∧ d.pn.length = M.length ∧ isM z.ms ∧ nonneg d.pn := by
 obtain ⟨hI, hD, hN, hM⟩ := grow_good hv hg;have hle := growT_le hg;have hF := hI.fine hN hM;have hgi : g < i := (hf.w2.le hI).2 hf.ne;have hno := no_omega hI hN hM i hf.fst;have hz1 := hno g z (by omega) hf.anc;have hzM := (hz1.2 hgi).1;have hzp := (hz1.2 hgi).2;have hdp := (hno i d (Nat.le_refl _) hf.at_).1;have hfd := hF i d hf.at_;have hfz := hF g z hf.anc;have hl1 : W1.length ≤ 1000 := by have := (path_len hI hf.w1 hf.anc).2; omega
 have hl2 : W2.length ≤ 1000 := by have := (path_len hI hf.w2 hf.at_).2; omega
 have hsame : ∀ (b : Nat), b ≤ i → ∀ (j : Nat) (e : Nd), j < b → T.nodes[j]? = some e → e.ms = e.pn := fun b hb j e hj he => ((hno j e (by omega) he).2 (by omega)).2
 have r1 := path_run hI hf.w1 hI.root hf.anc (hsame g (by omega));have r2 := path_run hI hf.w2 hf.anc hf.at_ (hsame i (Nat.le_refl _));simp only at r1;rw [if_neg hf.ne] at r2;have r1' : runV N M 0 (W1.map Int.ofNat) = (z.ms, W1.length, 0) := by
  rw [r1];by_cases h0 : W1 = []
  · rw [if_pos h0]
  · rw [if_neg h0, hzp]
 have hzk : mkB N z.ms = true := mk_of hv hfz.lm hzM;have e1 : run21 N M (W1.map Int.ofNat) = (z.ms, W1.length, 0) := by
  unfold run21; rw [hv, if_pos rfl, if_neg (by rw [List.length_map]; omega)]; exact r1'
 have e2 : run21 N z.ms (W2.map Int.ofNat) = (d.pn, W2.length, 0) := by
  unfold run21; rw [hzk, if_pos rfl, if_neg (by rw [List.length_map]; omega)]; exact r2
 have hpM : p < M.length := by have := hf.pl; rw [hfd.lp] at this; exact this
 have hnn : nonneg d.pn := fun q => by
  have h1 := hfd.ep q;have h2 := hasO_no hdp q;omega
 refine ⟨?_, ?_, ?_, e1, e2, hfz.lm, hfd.lp, hzM, hnn⟩
 · unfold chkB;rw [hv, if_neg (by simp), Bool.true_and];have hb : badC N ⟨6, p, W1.map Int.ofNat, W2.map Int.ofNat, []⟩ = false := by
    have h4 := mk_len hv;have h5 : W2.length ≠ 0 := fun h => hf.ne (List.eq_nil_of_length_eq_zero h)
    unfold badC;simp [hf.ne];omega
   rw [hb];unfold pumpB;simp only [e1, e2];have hlt : z.ms.getD p 0 < d.pn.getD p 0 := by
    have h1 := (lessE_iff _ _).1 (hf.le p (by rw [hfz.lm]; exact hpM));have h2 := hf.df;have h3 := hnn p;rcases h1 with h1 | h1
    · omega
    · have := h1.2; omega
   unfold endB;rw [(atMost_iff _ _).2 hf.le];simp only [Int.toNat_natCast];rw [decide_eq_true hlt]; simp
 · unfold fitB; simp; omega
 · unfold omB;rw [List.any_eq_true];exact (omega_iff hI hN hM).2 ⟨i, d, hf.at_, hf.om⟩
end
section
open Go.RowKit

def bigT (t : Tr) : Bool := decide (12 < t.i.length) || (decide (12 < t.o.length) || decide (100 < t.lb.size))
end
end Go.Proofs.YtkhmngljpfibcaaGreatDoor
