/- verdict.Check: what a call returns. A pump goes on from more tokens: plain. Opposite claims of a net are not both proved: plain. What the references ask of certificates is what the program asks: plain. great, Great, awake of the statements: what a call returns. -/
import Derived.Test.YtkhmngljpfibcaaGreatDoorPUu
import Derived.Test.YtkhmngljpfibcaaGreatDoorPYa
import Derived.Test.YtkhmngljpfibcaaGreatDoorPQj
import Derived.Test.YtkhmngljpfibcaaGreatDoorPHg
import Derived.Test.YtkhmngljpfibcaaGreatDoorPYe
import Derived.Test.YtkhmngljpfibcaaGreatDoorPYf
import Derived.Test.YtkhmngljpfibcaaGreatDoorPDg
import Derived.Lib.UnsafeStr
namespace Go.Proofs.YtkhmngljpfibcaaGreatDoor
section
open Go.RowKit

def ndB (N : Nt) (cn : Int) (R : List Int) : Bool := decide ((runI N R).2.2 = 0) && (decide (0 < R.length) && decide (R.getD (R.length - 1) 0 = cn))
def ClmP (N : Nt) (cl cn : Int) (R P : List Int) (K : List (List Int)) (V : List Mv) (S X : List (List Int)) : Prop :=
 (1 ≤ cl ∧ cl ≤ 4 → wfP N) ∧ ((cl = 1 ∧ sndB N K V X = true) ∨ (cl = 2 ∧ unsB N cn R P K = true) ∨ (cl = 3 ∧ relB N S = true) ∨ (cl = 4 ∧ nrlB N cn K S = true) ∨ ((cl = 5 ∨ cl = 6) ∧ chkB N (iniM N) ⟨cl, cn, R, P, K⟩ = true) ∨ (cl = 7 ∧ deadB N cn K = true) ∨ (cl = 8 ∧ ndB N cn R = true))
def VcPo (Q : Prop) (w : World) (e : Ending) (w' : World) : Prop := (∃ q : Bool, e = .returned (.bool q) ∧ (q = true ↔ Q)) ∧ Below w.heap.size w w'
theorem VcPo.no {Q : Prop} {w w' : World} (h : ¬ Q) (hb : Below w.heap.size w w') : VcPo Q w (.returned (.bool false)) w' := ⟨⟨false, rfl, by simp [h]⟩, hb⟩
theorem VcPo.is {Q : Prop} {w w' : World} {q : Bool} (h : q = true ↔ Q) (hb : Below w.heap.size w w') : VcPo Q w (.returned (.bool q)) w' := ⟨⟨q, rfl, h⟩, hb⟩
theorem clm_at {N : Nt} {cn : Int} {R P : List Int} {K : List (List Int)} {V : List Mv} {S X : List (List Int)} (hw : wfP N) :
 (ClmP N 1 cn R P K V S X ↔ sndB N K V X = true) ∧ (ClmP N 2 cn R P K V S X ↔ unsB N cn R P K = true) ∧ (ClmP N 3 cn R P K V S X ↔ relB N S = true) ∧ (ClmP N 4 cn R P K V S X ↔ nrlB N cn K S = true) := by
 refine ⟨?_, ?_, ?_, ?_⟩ <;> (unfold ClmP; simp [hw])
theorem clm_no {N : Nt} {cl cn : Int} {R P : List Int} {K : List (List Int)} {V : List Mv} {S X : List (List Int)} (hw : ¬ wfP N) (h1 : 1 ≤ cl) (h4 : cl ≤ 4) : ¬ ClmP N cl cn R P K V S X := fun h => hw (h.1 ⟨h1, h4⟩)
end
section
theorem fireV_cases (N : Nt) (M : List Int) (t : Int) : (∃ (k : Nat) (x : Tr), t = (k : Int) ∧ N.tr[k]? = some x ∧ canT x M = true ∧ ((bigM (fireT x M) = true ∧ fireV N M t = ([], 5)) ∨ (bigM (fireT x M) = false ∧ fireV N M t = (fireT x M, 0)))) ∨ ((fireV N M t).2 ≠ 0 ∧ (∀ (k : Nat) (x : Tr), t = (k : Int) → N.tr[k]? = some x → canT x M = false)) := by
 by_cases ht : t < 0
 · exact .inr ⟨by simp [fireV, ht], fun k x h => by omega⟩
 obtain ⟨k, rfl⟩ := Int.eq_ofNat_of_zero_le (show 0 ≤ t by omega);cases hx : N.tr[k]? with
 | none => exact .inr ⟨by simp [fireV, ht, hx], fun j x h h2 => by rw [Int.ofNat.inj h] at hx; rw [hx] at h2; cases h2⟩
 | some x =>
  have e : fireV N M (k : Int) = if canT x M then (if bigM (fireT x M) then ([], 5) else (fireT x M, 0)) else ([], 12) := by
   unfold fireV; rw [if_neg ht, Int.toNat_natCast, hx]
  cases hc : canT x M with
  | false =>
   rw [hc] at e;exact .inr ⟨by rw [e]; simp, fun j y h h2 => by rw [Int.ofNat.inj h] at hx; rw [hx] at h2; cases h2; exact hc⟩
  | true =>
   rw [hc] at e;refine .inl ⟨k, x, rfl, hx, hc, ?_⟩;cases hb : bigM (fireT x M) with
   | true => rw [hb] at e; exact .inl ⟨rfl, e⟩
   | false => rw [hb] at e; exact .inr ⟨rfl, e⟩
theorem om_pump {N : Nt} {M : List Int} {most : Nat} {T : TS} {i : Nat} {d : Nd} {g : Nat} {z : Nd} {W1 W2 : List Nat} {p : Nat} (hv : mkB N M = true) (hg : growT N M most = some T) (hm : most ≤ 1000) (hf : FOm N T i d g z W1 W2 p) :
 run21 N M (W1.map Int.ofNat) = (z.ms, W1.length, 0) ∧ run21 N z.ms (W2.map Int.ofNat) = (d.pn, W2.length, 0) ∧ mkB N z.ms = true ∧ (∀ q : Nat, z.ms.getD q 0 ≤ d.pn.getD q 0) ∧ z.ms.getD p 0 < d.pn.getD p 0 ∧ p < M.length ∧ z.ms.length = M.length := by
 obtain ⟨_, _, _, e1, e2, l1, l2, hzM, hnn⟩ := om_cert hv hg hm hf;have hz : mkB N z.ms = true := by have := run21_mk (N := N) (M := M) (l := W1.map Int.ofNat) (by rw [e1]); rwa [e1] at this
 have hle : ∀ q : Nat, z.ms.getD q 0 ≤ d.pn.getD q 0 := fun q => by
  rcases Nat.lt_or_ge q z.ms.length with hq | hq
  · have h1 := (lessE_iff _ _).1 (hf.le q hq);have h2 := hnn q;rcases h1 with h1 | h1
    · omega
    · exact h1.2
  · rw [getD_out hq, getD_out (by omega)]; omega
 have hpl := hf.pl;refine ⟨e1, e2, hz, hle, ?_, by omega, l1⟩;have h1 := hle p;have h2 := hf.df;omega
end
section
theorem memB_iff {K : List (List Int)} {m : List Int} : memB K m = true ↔ m ∈ K := by
 unfold memB isL; rw [List.any_eq_true];exact ⟨fun ⟨x, hx, h⟩ => by have := of_decide_eq_true h; rw [← this]; exact hx, fun h => ⟨m, h, by simp⟩⟩
def Cls (N : Nt) (K : List (List Int)) : Prop := ∀ s ∈ K, ∀ t ∈ N.tr, canT t s = true → bigM (fireT t s) = false ∧ fireT t s ∈ K
theorem cls_of {N : Nt} {K : List (List Int)} (h : closX N K = true) : Cls N K := by
 intro s hs t ht hc;unfold closX dblB at h;have h1 := List.all_eq_true.1 (List.all_eq_true.1 h s hs) t ht;unfold okX at h1;rw [hc] at h1;simp only [Bool.not_true, Bool.false_or, Bool.and_eq_true, Bool.not_eq_true'] at h1;refine ⟨h1.1, ?_⟩;have h2 := h1.2;unfold inB at h2;simpa using h2
theorem fireV_can {N : Nt} {X : List Int} {t : Int} (h : (fireV N X t).2 = 0) : ∃ (k : Nat) (x : Tr), t = (k : Int) ∧ N.tr[k]? = some x ∧ canT x X = true ∧ (fireV N X t).1 = fireT x X := by
 rcases fireV_cases N X t with ⟨k, x, rfl, hx, hc, ⟨hb, e⟩ | ⟨hb, e⟩⟩ | ⟨h0, _⟩
 · rw [e] at h; simp at h
 · exact ⟨k, x, rfl, hx, hc, by rw [e]⟩
 · exact absurd h h0
theorem low_row (Z : List Int) (n : Nat) : ∃ b : Int, ∀ j, j < n → b ≤ rowV Z j := by
 induction n with
 | zero => exact ⟨0, fun j h => by omega⟩
 | succ n ih =>
  obtain ⟨b, hb⟩ := ih;refine ⟨min b (rowV Z n), fun j hj => ?_⟩;rcases Nat.lt_or_ge j n with h | h
  · have := hb j h; omega
  · have : j = n := by omega
    subst this; omega
end
section
theorem lidx_find (K : List (List Int)) (m : List Int) : lidx (isL m) K = findR K m := rfl
theorem find_iff {K : List (List Int)} {m : List Int} : findR K m < 0 ↔ m ∉ K := find_neg
theorem fireV_iff {N : Nt} {X : List Int} {s : Int} {Y : List Int} : ((fireV N X s).2 = 0 ∧ (fireV N X s).1 = Y) ↔ (0 ≤ s ∧ s < (N.tr.length : Int) ∧ canT (trAtN N s) X = true ∧ bigM (fireT (trAtN N s) X) = false ∧ fireT (trAtN N s) X = Y) := by
 constructor
 · rintro ⟨h0, h1⟩;obtain ⟨k, x, rfl, hx, hc, e⟩ := fireV_can h0;have hk := (List.getElem?_eq_some_iff.1 hx).1;have ht : trAtN N (k : Int) = x := by unfold trAtN; rw [Int.toNat_natCast, List.getD_eq_getElem?_getD, hx]; rfl
   rw [ht];refine ⟨by omega, by omega, hc, ?_, by rw [← e]; exact h1⟩;cases hb : bigM (fireT x X) with
   | false => rfl
   | true =>
    unfold fireV at h0;rw [if_neg (by omega), Int.toNat_natCast, hx] at h0;simp [hc, hb] at h0
 · rintro ⟨h0, h1, h2, h3, h4⟩;obtain ⟨k, rfl⟩ := Int.eq_ofNat_of_zero_le h0;have hk : k < N.tr.length := by omega
   have ht : trAtN N (k : Int) = N.tr[k] := by unfold trAtN; rw [Int.toNat_natCast]; simp [hk]
   rw [ht] at h2 h3 h4;subst h4;unfold fireV;rw [if_neg (by omega), Int.toNat_natCast, List.getElem?_eq_getElem hk];simp [h2, h3]
theorem rmv_iff {N : Nt} {K : List (List Int)} {i : Nat} {f t s : Int} : rmvB N K i f t s = true ↔ (mvT N K i f t s = true ∧ findR K (K.getD (i + 1) []) = (i : Int) + 1) := by
 unfold rmvB mvT;simp only [Bool.and_eq_true, decide_eq_true_eq, Bool.not_eq_true'];constructor
 · rintro ⟨h1, h2, h3, h4, h5, h6, h7, h8, h9⟩;have := fireV_iff.2 ⟨h4, h5, h6, h8, h9⟩;exact ⟨⟨h1, h2, h3, this.1, this.2⟩, h7⟩
 · rintro ⟨⟨h1, h2, h3, h4, h5⟩, h7⟩;obtain ⟨g1, g2, g3, g4, g5⟩ := fireV_iff.1 ⟨h4, h5⟩;exact ⟨h1, h2, h3, g1, g2, g3, h7, g4, g5⟩
theorem find_first {K : List (List Int)} {m : List Int} (h : findR K m = 0) : K.getD 0 [] = m := by
 obtain ⟨i, hi, hl⟩ := find_lt (show 0 ≤ findR K m by omega);have h0 : i = 0 := by omega
 subst h0;have hne : ¬ (K.findIdx fun s => decide (s = m)) = K.length := by
  intro e;unfold findR at h;rw [if_pos e] at h;omega
 unfold findR at h;rw [if_neg hne] at h;have h1 : (K.findIdx fun s => decide (s = m)) = 0 := by omega
 have h2 := List.findIdx_getElem (w := show (K.findIdx fun s => decide (s = m)) < K.length by omega);have h3 := of_decide_eq_true h2;rw [List.getD_eq_getElem?_getD, List.getElem?_eq_getElem hl];simp only [h1] at h3;exact h3
theorem find_zero {K : List (List Int)} (h : 0 < K.length) : findR K (K.getD 0 []) = 0 := by
 cases K with
 | nil => simp at h
 | cons x K => simp [findR, List.findIdx_cons]
theorem near_iff {N : Nt} {K : List (List Int)} {Z : List Int} {i : Nat} (hi : i < K.length) (hc : closX N K = true) {t : Tr} (ht : t ∈ N.tr) : nearR K Z i t = nearT K Z i t := by
 unfold nearR nearT;rw [lidx_find];have e : K.getD i [] = K[i] := by simp [hi]
 rw [e];cases hcn : canT t K[i] with
 | false => rfl
 | true =>
  obtain ⟨h1, h2⟩ := cls_of hc _ (List.getElem_mem hi) t ht hcn;have h3 : ¬ findR K (fireT t K[i]) < 0 := fun h => find_iff.1 h h2
  rw [h1, decide_eq_true (show 0 ≤ findR K (fireT t K[i]) by omega)]; rfl
theorem any_near {N : Nt} {K : List (List Int)} {Z : List Int} {i : Nat} (hi : i < K.length) (hc : closX N K = true) : N.tr.any (nearR K Z i) = N.tr.any (nearT K Z i) := by
 rw [Bool.eq_iff_iff, List.any_eq_true, List.any_eq_true];exact ⟨fun ⟨t, ht, h⟩ => ⟨t, ht, by rw [← near_iff hi hc ht]; exact h⟩, fun ⟨t, ht, h⟩ => ⟨t, ht, by rw [near_iff hi hc ht]; exact h⟩⟩
theorem row_pos {Z : List Int} {n : Nat} (h : ∀ i, i < n → rowV Z i = 0 ∨ ∃ j, j < n ∧ rowV Z j < rowV Z i) : ∀ i, i < n → 0 ≤ rowV Z i := by
 have key : ∀ (g : Nat) (b : Int), (∀ j, j < n → b ≤ rowV Z j) → ∀ i, i < n → rowV Z i - b ≤ (g : Int) → 0 ≤ rowV Z i := by
  intro g
  induction g with
  | zero =>
   intro b hb i hi hg;rcases h i hi with h0 | ⟨j, hj, hlt⟩
   · omega
   · have := hb j hj; omega
  | succ g ih =>
   intro b hb i hi hg;rcases h i hi with h0 | ⟨j, hj, hlt⟩
   · omega
   · have := ih b hb j hj (by omega); omega
 intro i hi;obtain ⟨b, hb⟩ := low_row Z n;exact key (rowV Z i - b).toNat b hb i hi (by have := hb i hi; omega)
theorem never_iff {N : Nt} {K : List (List Int)} : (List.range N.tr.length).all (fun t => !(nevB N K (t : Int))) = N.tr.all (firedB K) := by
 rw [Bool.eq_iff_iff, List.all_eq_true, List.all_eq_true];have e : ∀ k, (hk : k < N.tr.length) → nevB N K (k : Int) = !(firedB K N.tr[k]) := fun k hk => by
  unfold nevB trnB firedB;have e2 : (enAt N (k : Int)) = canT N.tr[k] := by
   funext s
   unfold enAt;rw [Int.toNat_natCast, List.getElem?_eq_getElem hk]
  rw [e2, decide_eq_true (show (0 : Int) ≤ (k : Int) by omega), decide_eq_true (show (k : Int) < (N.tr.length : Int) by omega)]; rfl
 constructor
 · intro h t ht;obtain ⟨k, hk, rfl⟩ := List.getElem_of_mem ht;have := h k (List.mem_range.2 hk);rw [e k hk] at this;simpa using this
 · intro h k hk;have hk' := List.mem_range.1 hk;rw [e k hk'];have := h _ (List.getElem_mem hk');rw [this]; rfl
theorem snd_eq {N : Nt} {K : List (List Int)} {V : List Mv} {X : List (List Int)} (hm : mksX N.pl false K = true) : sndR N K V X = sndB N K V X := by
 unfold sndR sndB rchB;rw [never_iff, hm];rw [Bool.eq_iff_iff];simp only [Bool.and_eq_true, decide_eq_true_eq, Bool.not_eq_true'];constructor
 · rintro ⟨⟨h0, h1, h2, h3⟩, h4, h5, h6, h7, h8⟩;have hK : 0 < K.length := by
    cases K with
    | nil => simp at h0
    | cons => simp
   have hd : ∀ i, i < K.length → findR K (K.getD i []) = (i : Int) := fun i hi => by
    rcases Nat.eq_zero_or_pos i with rfl | hp
    · exact find_zero hK
    · obtain ⟨j, rfl⟩ : ∃ j, i = j + 1 := ⟨i - 1, by omega⟩;have hj : j < V.length := by omega
      have := List.all_eq_true.1 h3 j (List.mem_range.2 hj);rw [rmv_get hj] at this;have := (rmv_iff.1 this).2;omega
   refine ⟨h0, trivial, find_first h1, h2, h5, h6, List.all_eq_true.2 fun j hj => ?_, h4, List.all_eq_true.2 fun i hi => ?_, h8⟩
   · have hj' := List.mem_range.1 hj;have := List.all_eq_true.1 h3 j hj;rw [rmv_get hj'] at this;rw [mvOk_get hj'];exact (rmv_iff.1 this).1
   · have hi' := List.mem_range.1 hi;have := List.all_eq_true.1 h7 i hi;unfold mrkR at this;rw [any_near hi' h4] at this;simp only [Bool.and_eq_true, Bool.or_eq_true, decide_eq_true_eq, beq_iff_eq, Bool.not_eq_true', decide_eq_false_iff_not] at this;unfold mrkOk;rw [lidx_find];simp only [Bool.and_eq_true, Bool.or_eq_true, decide_eq_true_eq, beq_iff_eq, Bool.not_eq_true', decide_eq_false_iff_not];exact ⟨hd i hi', this.1.symm, this.2.imp id fun h => ⟨h.2.2, h.2.1⟩⟩
 · rintro ⟨h0, _, h1, h2, h5, h6, h3, h4, h7, h8⟩;have hK : 0 < K.length := by
    cases K with
    | nil => simp at h0
    | cons => simp
   have hmo : ∀ i, i < K.length → findR K (K.getD i []) = (i : Int) ∧ (decide (K.getD i [] = finM N) = decide (rowV (X.headD []) i = 0)) ∧ (K.getD i [] = finM N ∨ (N.tr.any (nearT K (X.headD []) i) = true ∧ ¬ 0 < (K.getD i []).getD N.snk.toNat 0)) := fun i hi => by
    have := List.all_eq_true.1 h7 i (List.mem_range.2 hi);unfold mrkOk at this;rw [lidx_find] at this;simpa only [Bool.and_eq_true, Bool.or_eq_true, decide_eq_true_eq, beq_iff_eq, Bool.not_eq_true', decide_eq_false_iff_not] using this
   have hpos : ∀ i, i < K.length → 0 ≤ rowV (X.headD []) i := row_pos fun i hi => by
    obtain ⟨_, g1, g2⟩ := hmo i hi;rcases g2 with g2 | ⟨g2, _⟩
    · left;rw [decide_eq_true g2] at g1;exact of_decide_eq_true g1.symm
    · right;obtain ⟨t, ht, hn⟩ := List.any_eq_true.1 g2;unfold nearT at hn;rw [lidx_find] at hn;simp only [Bool.and_eq_true, decide_eq_true_eq] at hn;have e : K.getD i [] = K[i] := by simp [hi]
      rw [e] at hn;have hf := (cls_of h4 _ (List.getElem_mem hi) t ht hn.1).2;have h9 : 0 ≤ findR K (fireT t K[i]) := by
       have : ¬ findR K (fireT t K[i]) < 0 := fun h => find_iff.1 h hf
       omega
      obtain ⟨j, hj, hl⟩ := find_lt h9;rw [hj, Int.toNat_natCast] at hn;exact ⟨j, hl, hn.2⟩
   refine ⟨⟨h0, by rw [← h1]; exact find_zero hK, h2, List.all_eq_true.2 fun j hj => ?_⟩, h4, h5, h6, List.all_eq_true.2 fun i hi => ?_, h8⟩
   · have hj' := List.mem_range.1 hj;have := List.all_eq_true.1 h3 j hj;rw [mvOk_get hj'] at this;rw [rmv_get hj'];exact rmv_iff.2 ⟨this, by have := (hmo (j + 1) (by omega)).1; omega⟩
   · have hi' := List.mem_range.1 hi;obtain ⟨_, g1, g2⟩ := hmo i hi';unfold mrkR;rw [any_near hi' h4];simp only [Bool.and_eq_true, Bool.or_eq_true, decide_eq_true_eq, beq_iff_eq, Bool.not_eq_true', decide_eq_false_iff_not];exact ⟨g1.symm, g2.imp id fun h => ⟨hpos i hi', h.2, h.1⟩⟩
theorem cov_nil (N : Nt) : covX N [] = false := rfl
theorem mem_find (K : List (List Int)) (m : List Int) : memB K m = !(decide (findR K m < 0)) := by
 rw [Bool.eq_iff_iff, memB_iff];simp [find_iff]
theorem dead_eq (N : Nt) (cn : Int) (K : List (List Int)) : (mksX N.pl true K && (covX N K && nevB N K cn)) = deadB N cn K := by
 unfold deadB nevB;cases trnB N cn <;> simp
theorem uns_eq (N : Nt) (cn : Int) (R P : List Int) (K : List (List Int)) : unsR N cn R P K = unsB N cn R P K := by
 unfold unsR unsB;rw [dead_eq];cases hp : P.isEmpty with
 | false =>
  simp only [Bool.false_eq_true, if_false];unfold vpumB;rw [hp]; simp
 | true =>
  simp only [if_true];cases hk : K.isEmpty with
  | true =>
   have hK : K = [] := List.isEmpty_iff.1 hk;subst hK;have hd : deadB N cn [] = false := by unfold deadB; rw [cov_nil]; simp
   rw [hd, Bool.and_false];simp only [if_true, Bool.false_eq_true, if_false];by_cases hr : (runI N R).2.2 = 0
   · rw [if_pos hr, decide_eq_true hr]; rfl
   · rw [if_neg hr, decide_eq_false hr]; rfl
  | false =>
   simp only [Bool.false_eq_true, if_false];rw [mem_find, mem_find];by_cases hr : (runI N R).2.2 = 0
   · rw [if_pos hr, decide_eq_true hr];cases (R.isEmpty && deadB N cn K) <;> cases mksX N.pl false K <;> cases closX N K <;> cases decide (findR K (runI N R).1 < 0) <;> cases decide (findR K (finM N) < 0) <;> rfl
   · rw [if_neg hr, decide_eq_false hr];cases (R.isEmpty && deadB N cn K) <;> rfl
end
section
open Go.RowKit

structure CfL (w : World) (Ar : Option Addr) (nr : Nat) (R : List Int) (Ap : Option Addr) (np : Nat) (P : List Int) (Ak : Option Addr) (nk : Nat) (K : List (List Int)) (Av : Option Addr) (nv : Nat) (V : List Mv) (As : Option Addr) (ns : Nat) (S : List (List Int)) (Aw : Option Addr) (nw : Nat) (X : List (List Int)) : Prop where
 r : ZIn w Ar R
 rl : R.length = nr
 p : ZIn w Ap P
 pl : P.length = np
 k : LIn w Ak K
 kl : K.length = nk
 v : Rd mvC 3 w Av V
 vl : V.length = nv
 s : LIn w As S
 sl : S.length = ns
 x : LIn w Aw X
 xl : X.length = nw
theorem CfL.below {w w' : World} {Ar : Option Addr} {nr : Nat} {R : List Int} {Ap : Option Addr} {np : Nat} {P : List Int} {Ak : Option Addr} {nk : Nat} {K : List (List Int)} {Av : Option Addr} {nv : Nat} {V : List Mv} {As : Option Addr} {ns : Nat} {S : List (List Int)} {Aw : Option Addr} {nw : Nat} {X : List (List Int)} (h : CfL w Ar nr R Ap np P Ak nk K Av nv V As ns S Aw nw X) (hb : Below w.heap.size w w') : CfL w' Ar nr R Ap np P Ak nk K Av nv V As ns S Aw nw X :=
 ⟨h.r.below hb, h.rl, h.p.below hb, h.pl, h.k.below hb, h.kl, h.v.below hb, h.vl, h.s.below hb, h.sl, h.x.below hb, h.xl⟩
theorem CfL.m {w : World} {Ar : Option Addr} {nr : Nat} {R : List Int} {Ap : Option Addr} {np : Nat} {P : List Int} {Ak : Option Addr} {nk : Nat} {K : List (List Int)} {Av : Option Addr} {nv : Nat} {V : List Mv} {As : Option Addr} {ns : Nat} {S : List (List Int)} {Aw : Option Addr} {nw : Nat} {X : List (List Int)} (h : CfL w Ar nr R Ap np P Ak nk K Av nv V As ns S Aw nw X) (h1 : nr ≤ 1000) (h2 : np ≤ 1000) (h3 : nk ≤ 1000) (h4 : nv ≤ 1000) (h5 : ns ≤ 1000) (h6 : nw ≤ 1000) : CfM w Ar nr R Ap np P Ak nk K Av nv V As ns S Aw nw X :=
 ⟨h.r, h.rl, by omega, h.p, h.pl, by omega, h.k, h.kl, by omega, h.v, h.vl, by omega, h.s, h.sl, by omega, h.x, h.xl, by omega⟩
end
end Go.Proofs.YtkhmngljpfibcaaGreatDoor
