/- Opposite claims of a net are not both proved: plain. -/
import Derived.Test.YtpnhcimmlnjfaaaDoorQq
import Derived.Test.YtpnhcimmlnjfaaaDoorIr
namespace Go.Proofs.YtpnhcimmlnjfaaaDoor

theorem memB_iff {K : List (List Int)} {m : List Int} : memB K m = true ↔ m ∈ K := by
 unfold memB isL; rw [List.any_eq_true]
 exact ⟨fun ⟨x, hx, h⟩ => by have := of_decide_eq_true h; rw [← this]; exact hx, fun h => ⟨m, h, by simp⟩⟩
/-- a set of markings holds what firing gives in them -/
def Cls (N : Nt) (K : List (List Int)) : Prop := ∀ s ∈ K, ∀ t ∈ N.tr, canT t s = true → bigM (fireT t s) = false ∧ fireT t s ∈ K
theorem cls_of {N : Nt} {K : List (List Int)} (h : closX N K = true) : Cls N K := by
 intro s hs t ht hc
 unfold closX dblB at h
 have h1 := List.all_eq_true.1 (List.all_eq_true.1 h s hs) t ht
 unfold okX at h1
 rw [hc] at h1
 simp only [Bool.not_true, Bool.false_or, Bool.and_eq_true, Bool.not_eq_true'] at h1
 refine ⟨h1.1, ?_⟩
 have h2 := h1.2
 unfold inB at h2
 simpa using h2
theorem cls_fire {N : Nt} {K : List (List Int)} (h : Cls N K) {s : List Int} (hs : s ∈ K) (t : Int) : (fireV N s t).2 ≠ 5 ∧ ((fireV N s t).2 = 0 → (fireV N s t).1 ∈ K) := by
 by_cases ht : t < 0
 · unfold fireV; rw [if_pos ht]; exact ⟨by simp, by simp⟩
 cases hx : N.tr[t.toNat]? with
 | none => unfold fireV; rw [if_neg ht, hx]; exact ⟨by simp, by simp⟩
 | some x =>
  have hm := List.mem_of_getElem? hx
  unfold fireV
  rw [if_neg ht, hx]
  cases hc : canT x s with
  | false => simp [hc]
  | true =>
   obtain ⟨hb, hi⟩ := h s hs x hm hc
   simp [hc, hb, hi]
theorem cls_run {N : Nt} {K : List (List Int)} (h : Cls N K) : ∀ (l : List Int) (s : List Int) (k : Nat), s ∈ K → (runV N s k l).2.2 ≠ 5 ∧ ((runV N s k l).2.2 = 0 → (runV N s k l).1 ∈ K) := by
 intro l
 induction l with
 | nil => intro s k hs; exact ⟨by simp [runV], fun _ => hs⟩
 | cons t l ih =>
  intro s k hs
  obtain ⟨h1, h2⟩ := cls_fire h hs t
  by_cases h0 : (fireV N s t).2 = 0
  · rw [runV_step h0]; exact ih _ _ (h2 h0)
  · rw [runV_stop h0]; exact ⟨h1, fun e => absurd e h0⟩
theorem run21_eq {N : Nt} {s l : List Int} (h : (run21 N s l).2.2 = 0) : run21 N s l = runV N s 0 l ∧ l.length ≤ 1000 := by
 unfold run21 at h ⊢
 by_cases h1 : mkB N s = true
 · rw [if_pos h1] at h ⊢
   by_cases h2 : 1000 < l.length
   · rw [if_pos h2] at h; simp at h
   · rw [if_neg h2]; exact ⟨rfl, by omega⟩
 · rw [if_neg h1] at h; simp at h
theorem no_pump {N : Nt} {K : List (List Int)} (h : Cls N K) (hk : ∀ s ∈ K, mkB N s = true) {z : List Int} (hz : z ∈ K) {l y : List Int} {n p : Nat} (hr : run21 N z l = (y, n, 0)) (hy : ∀ q : Nat, z.getD q 0 ≤ y.getD q 0) (hp : z.getD p 0 < y.getD p 0) : False := by
 have hl : l.length ≤ 1000 := (run21_eq (show (run21 N z l).2.2 = 0 by rw [hr])).2
 have key : ∀ j : Nat, ∃ x ∈ K, moreM z x ∧ z.getD p 0 + (j : Int) ≤ x.getD p 0 := by
  intro j
  induction j with
  | zero => exact ⟨z, hz, ⟨rfl, fun q => Int.le_refl _⟩, by simp⟩
  | succ j ih =>
   obtain ⟨x, hx, hm, hlt⟩ := ih
   have ex : run21 N x l = runV N x 0 l := by unfold run21; rw [if_pos (hk x hx), if_neg (by omega)]
   rcases pump_on (hk z hz) (hk x hx) hm hr hy hp with h5 | ⟨h0, _, _, hm', hlt'⟩
   · rw [ex] at h5; exact absurd h5 (cls_run h l x 0 hx).1
   · rw [ex] at h0 hm' hlt'
     exact ⟨_, (cls_run h l x 0 hx).2 h0, hm', by omega⟩
 obtain ⟨x, hx, _, hlt⟩ := key 101
 have h1 := (mkM (hk x hx) p).2
 have h2 := (mkM (hk z hz) p).1
 omega
theorem strict_of {x y : List Int} (hl : x.length = y.length) (hy : nonneg y) (h : atMost x y = true) (hne : x ≠ y) : (∀ q : Nat, x.getD q 0 ≤ y.getD q 0) ∧ ∃ p, x.getD p 0 < y.getD p 0 := by
 have hle := (atMost_iff x y).1 h
 have h1 : ∀ q : Nat, x.getD q 0 ≤ y.getD q 0 := by
  intro q
  rcases Nat.lt_or_ge q x.length with hq | hq
  · have := (lessE_iff _ _).1 (hle q hq)
    have := hy q
    omega
  · rw [getD_out hq]; exact hy q
 refine ⟨h1, ?_⟩
 apply Classical.byContradiction
 intro hn
 exact hne (ext_get hl fun p _ => by
  have h2 := h1 p
  have h3 : ¬ x.getD p 0 < y.getD p 0 := fun h => hn ⟨p, h⟩
  omega)
theorem pum_no {N : Nt} {K : List (List Int)} (h : Cls N K) (hk : ∀ s ∈ K, mkB N s = true) (hi : iniM N ∈ K) {l P : List Int} (hp : vpumB N l P = true) : False := by
 unfold vpumB at hp
 simp only [Bool.and_eq_true, decide_eq_true_eq, Bool.not_eq_true', decide_eq_false_iff_not] at hp
 obtain ⟨h1, _, h3, h4, h5⟩ := hp
 have hx : (runI N l).1 ∈ K := by
  unfold runI at h1 ⊢
  have e := (run21_eq h1).1
  rw [e] at h1 ⊢
  exact (cls_run h l _ 0 hi).2 h1
 have hmx := hk _ hx
 have hmy := run21_mk h3
 obtain ⟨hle, p, hlt⟩ := strict_of (by have := mk_len hmx; have := mk_len hmy; omega) (fun q => (mkM hmy q).1) h4 h5
 exact no_pump h hk hx (l := P) (y := (run21 N (runI N l).1 P).1) (n := (run21 N (runI N l).1 P).2.1) (by rw [← h3]) hle hlt
/-- what extended markings that cover say of each marking that is reached -/
theorem cov_reach {N : Nt} {K : List (List Int)} (hv : ntB N = true) (hm : mksX N.pl true K = true) (h : covX N K = true) {x : List Int} (hr : Reach N (iniM N) x) : ∃ y ∈ K, x.length = y.length ∧ leE x y := by
 unfold covX at h
 rw [Bool.and_eq_true] at h
 have hil := ini_len hv
 have hN := netOk_of hv hil
 have hin : nonneg (iniM N) := fun q => (mkM (ini_mk hv) q).1
 have hyl : ∀ y ∈ K, (y.length : Int) = N.pl := fun y hy => mkX_len (List.all_eq_true.1 hm y hy)
 have hye : ∀ y ∈ K, okE y := fun y hy p => by
  rcases Nat.lt_or_ge p y.length with hp | hp
  · have := mkX_num (List.all_eq_true.1 hm y hy) y[p] (List.getElem_mem hp)
    rw [List.getD_eq_getElem?_getD, List.getElem?_eq_getElem hp]
    exact this.1
  · rw [getD_out hp]; decide
 have below : ∀ z : List Int, belowB K z = true → ∃ y ∈ K, leE z y := fun z hz => by
  unfold belowB at hz
  obtain ⟨y, hy, h1⟩ := List.any_eq_true.1 hz
  exact ⟨y, hy, (atMost_iff _ _).1 h1⟩
 induction hr with
 | base =>
  obtain ⟨y, hy, h1⟩ := below _ h.1
  exact ⟨y, hy, by have := hyl y hy; omega, h1⟩
 | @step x k t hr hk hc ih =>
  obtain ⟨y, hy, hl, hle⟩ := ih
  have hg := hr.good hN hin
  have hok := hN k t hk
  obtain ⟨hcy, hle2⟩ := fire_mono hl (by rw [hg.2]; exact hok) hg.1 (hye y hy) hle hc
  unfold dblB at h
  have h1 := List.all_eq_true.1 (List.all_eq_true.1 h.2 y hy) t (List.mem_of_getElem? hk)
  unfold okX at h1
  rw [hcy] at h1
  simp only [Bool.not_true, Bool.false_or, Bool.and_eq_true] at h1
  obtain ⟨u, hu, h2⟩ := below _ h1.2
  refine ⟨u, hu, ?_, fun p hp => ?_⟩
  · rw [fireT_len]; have := hyl u hu; have := hyl y hy; omega
  · have h3 := (lessE_iff _ _).1 (hle2 p hp)
    have h4 := (lessE_iff _ _).1 (h2 p (by rw [fireT_len] at hp ⊢; omega))
    rw [lessE_iff]
    omega
/-- a transition that is proved dead is not enabled in what is reached -/
theorem dead_no {N : Nt} {K : List (List Int)} {cn : Int} (hv : ntB N = true) (h : deadB N cn K = true) {x : List Int} (hr : Reach N (iniM N) x) : ∃ t, N.tr[cn.toNat]? = some t ∧ 0 ≤ cn ∧ cn < (N.tr.length : Int) ∧ canT t x = false := by
 unfold deadB trnB at h
 simp only [Bool.and_eq_true, decide_eq_true_eq, Bool.not_eq_true'] at h
 obtain ⟨⟨h0, h1⟩, h2, h3, h4⟩ := h
 have hlt : cn.toNat < N.tr.length := by omega
 refine ⟨N.tr[cn.toNat], List.getElem?_eq_getElem hlt, h0, h1, ?_⟩
 obtain ⟨y, hy, hl, hle⟩ := cov_reach hv h2 h3 hr
 have hil := ini_len hv
 have hN := netOk_of hv hil
 have hg := hr.good hN (fun q => (mkM (ini_mk hv) q).1)
 cases hc : canT N.tr[cn.toNat] x with
 | false => rfl
 | true =>
  have hye : okE y := fun p => by
   rcases Nat.lt_or_ge p y.length with hp | hp
   · have := mkX_num (List.all_eq_true.1 h2 y hy) y[p] (List.getElem_mem hp)
     rw [List.getD_eq_getElem?_getD, List.getElem?_eq_getElem hp]
     exact this.1
   · rw [getD_out hp]; decide
  have hcy := (fire_mono hl (by rw [hg.2]; exact hN cn.toNat _ (List.getElem?_eq_getElem hlt)) hg.1 hye hle hc).1
  have h5 : K.any (enAt N cn) = true := List.any_eq_true.2 ⟨y, hy, by unfold enAt; rw [List.getElem?_eq_getElem hlt]; exact hcy⟩
  rw [h4] at h5; cases h5
theorem reach_fireV {N : Nt} {M X : List Int} {t : Int} (hr : Reach N M X) (h : (fireV N X t).2 = 0) : Reach N M (fireV N X t).1 := by
 rcases fireV_cases N X t with ⟨k, x, rfl, hx, hc, ⟨hb, e⟩ | ⟨hb, e⟩⟩ | ⟨h0, _⟩
 · rw [e] at h; simp at h
 · rw [e]; exact hr.step hx hc
 · exact absurd h h0
/-- a run that fires a transition reaches a marking in which it is enabled -/
theorem run_has {N : Nt} {M : List Int} {t : Int} : ∀ (l : List Int) (X : List Int) (k : Nat), Reach N M X → (runV N X k l).2.2 = 0 → t ∈ l → ∃ Y k' l', Reach N M Y ∧ (fireV N Y t).2 = 0 ∧ (runV N (fireV N Y t).1 k' l').2.2 = 0 ∧ (runV N (fireV N Y t).1 k' l').1 = (runV N X k l).1 := by
 intro l
 induction l with
 | nil => intro X k _ _ h; cases h
 | cons u l ih =>
  intro X k hr h hm
  by_cases h0 : (fireV N X u).2 = 0
  · rw [runV_step h0] at h ⊢
    rcases List.mem_cons.1 hm with rfl | hm
    · exact ⟨X, k + 1, l, hr, h0, h, rfl⟩
    · exact ih _ _ (reach_fireV hr h0) h hm
  · rw [runV_stop h0] at h; exact absurd h h0
theorem fireV_can {N : Nt} {X : List Int} {t : Int} (h : (fireV N X t).2 = 0) : ∃ (k : Nat) (x : Tr), t = (k : Int) ∧ N.tr[k]? = some x ∧ canT x X = true ∧ (fireV N X t).1 = fireT x X := by
 rcases fireV_cases N X t with ⟨k, x, rfl, hx, hc, ⟨hb, e⟩ | ⟨hb, e⟩⟩ | ⟨h0, _⟩
 · rw [e] at h; simp at h
 · exact ⟨k, x, rfl, hx, hc, by rw [e]⟩
 · exact absurd h h0
theorem opp78 {N : Nt} {K : List (List Int)} {cn : Int} {R : List Int} (hv : ntB N = true) (h : deadB N cn K = true) (h2 : ndB N cn R = true) : False := by
 unfold ndB runI at h2
 simp only [Bool.and_eq_true, decide_eq_true_eq] at h2
 obtain ⟨h3, h4, h5⟩ := h2
 have e0 := (run21_eq h3).1
 rw [e0] at h3
 have hm : cn ∈ R := by
  rw [← h5, List.getD_eq_getElem?_getD, List.getElem?_eq_getElem (by omega)]
  exact List.getElem_mem _
 obtain ⟨Y, _, _, hr, h0, _, _⟩ := run_has R _ 0 Reach.base h3 hm
 obtain ⟨t, ht, _, _, hn⟩ := dead_no hv h hr
 obtain ⟨k, x, rfl, hx, hc, _⟩ := fireV_can h0
 rw [Int.toNat_natCast, hx] at ht
 cases ht
 rw [hc] at hn; cases hn
/-- what a certificate of soundness says -/
structure Snd (N : Nt) (K : List (List Int)) (Z : List Int) : Prop where
 cl : Cls N K
 mks : ∀ s ∈ K, mkB N s = true
 ini : iniM N ∈ K
 rc : ∀ s ∈ K, Reach N (iniM N) s
 snk : ∀ s ∈ K, s ≠ finM N → ¬ 0 < s.getD N.snk.toNat 0
 near : ∀ (i : Nat) (h : i < K.length), K[i] ≠ finM N → ∃ t ∈ N.tr, canT t K[i] = true ∧ ∃ (j : Nat) (h : j < K.length), K[j] = fireT t K[i] ∧ rowV Z j < rowV Z i
 fd : ∀ t ∈ N.tr, ∃ s ∈ K, canT t s = true
theorem lidxm_at {K : List (List Int)} {m : List Int} (h : m ∈ K) : ∃ (j : Nat) (h : j < K.length), lidx (isL m) K = (j : Int) ∧ K[j] = m := by
 have h1 := lidx_mem m K
 rw [memB_iff.2 h] at h1
 have h2 : 0 ≤ lidx (isL m) K := of_decide_eq_true h1
 unfold lidx at h2 ⊢
 split at h2
 · omega
 · rename_i hne
   rw [if_neg hne]
   have hlt : K.findIdx (isL m) < K.length := by
    have := List.findIdx_le_length (p := isL m) (xs := K); omega
   refine ⟨_, hlt, rfl, ?_⟩
   have := List.findIdx_getElem (w := hlt)
   unfold isL at this
   exact of_decide_eq_true this
theorem snd_of {N : Nt} {K : List (List Int)} {V : List Mv} {X : List (List Int)} (hv : ntB N = true) (h : sndB N K V X = true) : Snd N K (X.headD []) := by
 unfold sndB at h
 simp only [Bool.and_eq_true, decide_eq_true_eq] at h
 obtain ⟨h0, h1, h2, h3, h4, h5, h6, h7, h8, h9⟩ := h
 have hK : 0 < K.length := by
  cases K with
  | nil => simp at h0
  | cons => simp
 have hmk : ∀ s ∈ K, mkB N s = true := fun s hs => by rw [← mkX_mk hv]; exact List.all_eq_true.1 h1 s hs
 have hC := cls_of h7
 have g0 : K[0] = iniM N := by rw [← h2]; simp [hK]
 have hrc : ∀ (i : Nat) (hi : i < K.length), Reach N (iniM N) K[i] := by
  intro i
  induction i using Nat.strongRecOn with
  | _ i ih =>
   intro hi
   rcases Nat.eq_zero_or_pos i with rfl | hp
   · rw [g0]; exact Reach.base
   · obtain ⟨j, rfl⟩ : ∃ j, i = j + 1 := ⟨i - 1, by omega⟩
     have hj : j < V.length := by omega
     have hm := List.all_eq_true.1 h6 j (List.mem_range.2 hj)
     rw [mvOk_get hj] at hm
     unfold mvT at hm
     simp only [Bool.and_eq_true, decide_eq_true_eq] at hm
     obtain ⟨_, f0, f1, f2, f3⟩ := hm
     have hfl : V[j].f.toNat < K.length := by omega
     have e1 : K.getD V[j].f.toNat [] = K[V[j].f.toNat] := by simp [hfl]
     have e2 : K.getD (j + 1) [] = K[j + 1] := by simp [hi]
     rw [e1] at f2 f3
     rw [e2] at f3
     rw [← f3]
     exact reach_fireV (ih _ (by omega) hfl) f2
 have hat : ∀ (i : Nat) (hi : i < K.length), K.getD i [] = K[i] := fun i hi => by simp [hi]
 have hmo := fun (i : Nat) (hi : i < K.length) => List.all_eq_true.1 h8 i (List.mem_range.2 hi)
 refine ⟨hC, hmk, by rw [← g0]; exact List.getElem_mem _, fun s hs => ?_, fun s hs hne => ?_, fun i hi hne => ?_, fun t ht => ?_⟩
 · obtain ⟨i, hi, rfl⟩ := List.getElem_of_mem hs
   exact hrc i hi
 · obtain ⟨i, hi, rfl⟩ := List.getElem_of_mem hs
   have := hmo i hi
   unfold mrkOk at this
   rw [hat i hi] at this
   simp only [Bool.and_eq_true, Bool.or_eq_true, decide_eq_true_eq, Bool.not_eq_true', decide_eq_false_iff_not] at this
   rcases this.2.2 with h | h
   · exact absurd h hne
   · exact h.2
 · have := hmo i hi
   unfold mrkOk at this
   rw [hat i hi] at this
   simp only [Bool.and_eq_true, Bool.or_eq_true, decide_eq_true_eq] at this
   rcases this.2.2 with h | h
   · exact absurd h hne
   · obtain ⟨t, ht, hn⟩ := List.any_eq_true.1 h.1
     unfold nearT at hn
     rw [hat i hi] at hn
     simp only [Bool.and_eq_true, decide_eq_true_eq] at hn
     have hf := hC _ (List.getElem_mem hi) t ht hn.1
     obtain ⟨j, hj, e, ej⟩ := lidxm_at hf.2
     rw [e, Int.toNat_natCast] at hn
     exact ⟨t, ht, hn.1, j, hj, ej, hn.2⟩
 · have := List.all_eq_true.1 h9 t ht
   unfold firedB at this
   obtain ⟨s, hs, hc⟩ := List.any_eq_true.1 this
   exact ⟨s, hs, hc⟩
/-- from each marking of a closed part the end is in it -/
theorem snd_end {N : Nt} {K : List (List Int)} {Z : List Int} (h : Snd N K Z) {K' : List (List Int)} (hc : Cls N K') : ∀ (g : Nat) (i : Nat) (hi : i < K.length), (∀ j, j < K.length → rowV Z i - (g : Int) ≤ rowV Z j) → K[i] ∈ K' → finM N ∈ K' := by
 intro g
 induction g with
 | zero =>
  intro i hi hmin hm
  by_cases he : K[i] = finM N
  · rw [← he]; exact hm
  · obtain ⟨t, ht, hcn, j, hj, e, hlt⟩ := h.near i hi he
    have := hmin j hj
    omega
 | succ g ih =>
  intro i hi hmin hm
  by_cases he : K[i] = finM N
  · rw [← he]; exact hm
  · obtain ⟨t, ht, hcn, j, hj, e, hlt⟩ := h.near i hi he
    refine ih j hj (fun k hk => ?_) (by rw [e]; exact (hc _ hm t ht hcn).2)
    have := hmin k hk
    omega
theorem low_row (Z : List Int) (n : Nat) : ∃ b : Int, ∀ j, j < n → b ≤ rowV Z j := by
 induction n with
 | zero => exact ⟨0, fun j h => by omega⟩
 | succ n ih =>
  obtain ⟨b, hb⟩ := ih
  refine ⟨min b (rowV Z n), fun j hj => ?_⟩
  rcases Nat.lt_or_ge j n with h | h
  · have := hb j h; omega
  · have : j = n := by omega
    subst this; omega
theorem snd_fin {N : Nt} {K : List (List Int)} {Z : List Int} (h : Snd N K Z) {K' : List (List Int)} (hc : Cls N K') {s : List Int} (hs : s ∈ K) (hm : s ∈ K') : finM N ∈ K' := by
 obtain ⟨i, hi, rfl⟩ := List.getElem_of_mem hs
 obtain ⟨b, hb⟩ := low_row Z K.length
 exact snd_end h hc (rowV Z i - b).toNat i hi (fun j hj => by have := hb j hj; have := hb i hi; omega) hm
theorem opp12 {N : Nt} {K K' : List (List Int)} {V : List Mv} {X : List (List Int)} {cn : Int} {R P : List Int} (hv : ntB N = true) (h : sndB N K V X = true) (h2 : unsB N cn R P K' = true) : False := by
 have hS := snd_of hv h
 unfold unsB at h2
 cases hp : P.isEmpty with
 | false =>
  rw [hp, if_neg (by simp)] at h2
  exact pum_no hS.cl hS.mks hS.ini h2
 | true =>
  rw [hp, if_pos rfl] at h2
  by_cases hd : (R.isEmpty && deadB N cn K') = true
  · rw [Bool.and_eq_true] at hd
    obtain ⟨t, ht, _, _, _⟩ := dead_no hv hd.2 Reach.base
    obtain ⟨s, hs, hc⟩ := hS.fd t (List.mem_of_getElem? ht)
    obtain ⟨t', ht', _, _, hn⟩ := dead_no hv hd.2 (hS.rc s hs)
    rw [ht] at ht'; cases ht'
    rw [hc] at hn; cases hn
  · rw [if_neg hd] at h2
    by_cases hr : (runI N R).2.2 = 0
    · rw [if_pos hr] at h2
      have hx : (runI N R).1 ∈ K := by
       unfold runI at hr ⊢
       have e := (run21_eq hr).1
       rw [e] at hr ⊢
       exact (cls_run hS.cl R _ 0 hS.ini).2 hr
      cases hk : K'.isEmpty with
      | true =>
       rw [hk, if_pos rfl] at h2
       simp only [Bool.and_eq_true, decide_eq_true_eq, Bool.not_eq_true', decide_eq_false_iff_not] at h2
       exact hS.snk _ hx h2.2 h2.1
      | false =>
       rw [hk, if_neg (by simp)] at h2
       simp only [Bool.and_eq_true, Bool.not_eq_true'] at h2
       obtain ⟨_, h3, h4, h5⟩ := h2
       have := snd_fin hS (cls_of h5) hx (memB_iff.1 h3)
       rw [memB_iff.2 this] at h4; cases h4
    · rw [if_neg hr] at h2; cases h2
theorem opp34 {N : Nt} {K S S' : List (List Int)} {cn : Int} (_hv : ntB N = true) (h : relB N S = true) (h2 : nrlB N cn K S' = true) : False := by
 unfold nrlB trnB at h2
 simp only [Bool.and_eq_true, decide_eq_true_eq, Bool.not_eq_true'] at h2
 obtain ⟨⟨c0, c1⟩, _, h3, _, h5, _, h7, h8, h9⟩ := h2
 have hlt : cn.toNat < N.tr.length := by omega
 unfold relB at h
 simp only [Bool.and_eq_true, decide_eq_true_eq] at h
 have h10 := List.all_eq_true.1 h.2 cn.toNat (List.mem_range.2 (by omega))
 unfold relAt at h10
 rw [List.getElem?_eq_getElem (by omega)] at h10
 simp only [Bool.and_eq_true, decide_eq_true_eq] at h10
 obtain ⟨h11, h12, h13⟩ := h10
 have hme : cn ∈ S[cn.toNat] := by
  unfold hasB at h13
  obtain ⟨y, hy, e⟩ := List.any_eq_true.1 h13
  have e2 := of_decide_eq_true e
  have e4 : y = cn := by omega
  rw [e4] at hy
  exact hy
 unfold runI at h11 h12
 have e0 := (run21_eq h11).1
 rw [e0] at h11 h12
 have key : ∀ (l : List Int) (Y : List Int) (k : Nat), Y ∈ K → (runV N Y k l).2.2 = 0 → cn ∈ l → (runV N Y k l).1 ∈ lostL K (S'.headD []) := by
  intro l
  induction l with
  | nil => intro Y k _ _ hm; cases hm
  | cons t l ih =>
   intro Y k hY hr hm
   by_cases h0 : (fireV N Y t).2 = 0
   · rw [runV_step h0] at hr ⊢
     rcases List.mem_cons.1 hm with rfl | hm
     · obtain ⟨j, x, rfl, hx, hc, e⟩ := fireV_can h0
       have hin : fireT x Y ∈ lostL K (S'.headD []) := by
        apply Classical.byContradiction
        intro hn
        have : K.any (nrbB (lostL K (S'.headD [])) (trAtN N (j : Int))) = true := by
         rw [List.any_eq_true]
         refine ⟨Y, hY, ?_⟩
         unfold nrbB trAtN
         rw [Int.toNat_natCast, List.getD_eq_getElem?_getD, hx]
         show (canT x Y && !(memB _ (fireT x Y))) = true
         rw [hc, Bool.true_and, Bool.not_eq_true']
         cases hb : memB (lostL K (S'.headD [])) (fireT x Y) with
         | false => rfl
         | true => exact absurd (memB_iff.1 hb) hn
        rw [h9] at this; cases this
       rw [← e] at hin
       exact (cls_run (cls_of h7) l _ _ hin).2 hr
     · exact ih _ _ ((cls_fire (cls_of h5) hY t).2 h0) hr hm
   · rw [runV_stop h0] at hr; exact absurd hr h0
 have := key _ _ 0 (memB_iff.1 h3) h11 hme
 rw [h12] at this
 rw [memB_iff.2 this] at h8; cases h8
theorem clsB_of {N : Nt} {K : List (List Int)} {M : List Int} (h : closedB N M K = true) : M ∈ K ∧ (∀ s ∈ K, mkB N s = true) ∧ Cls N K := by
 unfold closedB at h
 simp only [Bool.and_eq_true, decide_eq_true_eq] at h
 obtain ⟨h1, h2, h3⟩ := h
 refine ⟨h1, fun s hs => List.all_eq_true.1 h2 s hs, fun s hs t ht hc => ?_⟩
 have h4 := List.all_eq_true.1 h3 s hs
 unfold okS at h4
 obtain ⟨k, hk, rfl⟩ := List.getElem_of_mem ht
 have h5 := List.all_eq_true.1 h4 k (List.mem_range.2 hk)
 rw [okT_fire (List.getElem?_eq_getElem hk) hc] at h5
 simp only [Bool.and_eq_true, decide_eq_true_eq] at h5
 obtain ⟨k', x, e, hx, _, e2⟩ := fireV_can h5.1
 obtain rfl : k = k' := Int.ofNat.inj e
 rw [List.getElem?_eq_getElem hk] at hx
 cases hx
 refine ⟨?_, by rw [← e2]; exact h5.2⟩
 cases hb : bigM (fireT N.tr[k] s) with
 | false => rfl
 | true =>
  have := h5.1
  unfold fireV at this
  rw [if_neg (by omega), Int.toNat_natCast, List.getElem?_eq_getElem hk] at this
  simp [hc, hb] at this
theorem opp56 {N : Nt} {c1 c2 : Int} {R1 P1 R2 P2 : List Int} {K1 K2 : List (List Int)} (_hv : ntB N = true) (h : chkB N (iniM N) ⟨5, c1, R1, P1, K1⟩ = true) (h2 : chkB N (iniM N) ⟨6, c2, R2, P2, K2⟩ = true) : False := by
 unfold chkB at h h2
 simp only [Bool.and_eq_true, if_pos] at h h2
 obtain ⟨hi, hk, hC⟩ := clsB_of h.2
 rw [if_neg (by decide)] at h2
 simp only [Bool.and_eq_true] at h2
 have hp := h2.2.2
 unfold pumpB endB at hp
 simp only [Bool.and_eq_true, decide_eq_true_eq] at hp
 obtain ⟨p1, p2, p3, p4⟩ := hp
 have hx : (run21 N (iniM N) R2).1 ∈ K1 := by
  have e := (run21_eq p1).1
  rw [e] at p1 ⊢
  exact (cls_run hC R2 _ 0 hi).2 p1
 have hmx := hk _ hx
 have hmy := run21_mk p2
 obtain ⟨hle, p, hlt⟩ := strict_of (by have := mk_len hmx; have := mk_len hmy; omega) (fun q => (mkM hmy q).1) p3 (fun e => by rw [← e] at p4; omega)
 exact no_pump hC hk hx (l := P2) (y := (run21 N (run21 N (iniM N) R2).1 P2).1) (n := (run21 N (run21 N (iniM N) R2).1 P2).2.1) (by rw [← p2]) hle hlt
theorem opp_cases {c1 c2 : Int} (hr : 1 ≤ c1 ∧ c1 ≤ 10) (ho : c2 = if c1 % 2 = 1 then c1 + 1 else c1 - 1) : c1 = 1 ∧ c2 = 2 ∨ c1 = 2 ∧ c2 = 1 ∨ c1 = 3 ∧ c2 = 4 ∨ c1 = 4 ∧ c2 = 3 ∨ c1 = 5 ∧ c2 = 6 ∨ c1 = 6 ∧ c2 = 5 ∨ c1 = 7 ∧ c2 = 8 ∨ c1 = 8 ∧ c2 = 7 ∨ c1 = 9 ∨ c1 = 10 := by
 have h10 : c1 = 1 ∨ c1 = 2 ∨ c1 = 3 ∨ c1 = 4 ∨ c1 = 5 ∨ c1 = 6 ∨ c1 = 7 ∨ c1 = 8 ∨ c1 = 9 ∨ c1 = 10 := by omega
 clear hr
 rcases h10 with rfl | rfl | rfl | rfl | rfl | rfl | rfl | rfl | rfl | rfl <;> subst ho <;> decide
/-- no two certificates prove opposite claims -/
theorem honest {N : Nt} {c1 n1 : Int} {R1 P1 : List Int} {K1 : List (List Int)} {V1 : List Mv} {S1 X1 : List (List Int)} {c2 n2 : Int} {R2 P2 : List Int} {K2 : List (List Int)} {V2 : List Mv} {S2 X2 : List (List Int)} (h1 : ChkP N c1 n1 R1 P1 K1 V1 S1 X1) (h2 : ChkP N c2 n2 R2 P2 K2 V2 S2 X2) (hr : 1 ≤ c1 ∧ c1 ≤ 10) (ho : c2 = if c1 % 2 = 1 then c1 + 1 else c1 - 1) : (c1 = 7 ∨ c1 = 8) ∧ n1 ≠ n2 := by
 obtain ⟨hv, _, _, _, _, g1⟩ := h1
 obtain ⟨_, _, _, _, _, g2⟩ := h2
 rcases opp_cases hr ho with ⟨rfl, rfl⟩ | ⟨rfl, rfl⟩ | ⟨rfl, rfl⟩ | ⟨rfl, rfl⟩ | ⟨rfl, rfl⟩ | ⟨rfl, rfl⟩ | ⟨rfl, rfl⟩ | ⟨rfl, rfl⟩ | rfl | rfl <;> simp only [Int.reduceEq, false_and, true_and, false_or, or_false, or_true] at g1 g2
 · exact (opp12 hv g1 g2).elim
 · exact (opp12 hv g2 g1).elim
 · exact (opp34 hv g1 g2).elim
 · exact (opp34 hv g2 g1).elim
 · exact (opp56 hv g1 g2).elim
 · exact (opp56 hv g2 g1).elim
 · exact ⟨by simp, fun e => by subst e; exact opp78 hv g1 g2⟩
 · exact ⟨by simp, fun e => by subst e; exact opp78 hv g2 g1⟩
end Go.Proofs.YtpnhcimmlnjfaaaDoor
