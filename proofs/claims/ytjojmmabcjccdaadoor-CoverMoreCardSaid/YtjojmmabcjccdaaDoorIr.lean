/- A pump goes on from more tokens: plain. -/
import Derived.Test.YtjojmmabcjccdaaDoorIj
namespace Go.Proofs.YtjojmmabcjccdaaDoor

/-- at least as many tokens everywhere -/
def moreM (z x : List Int) : Prop := z.length = x.length ∧ ∀ q : Nat, z.getD q 0 ≤ x.getD q 0
theorem fireV_cases (N : Nt) (M : List Int) (t : Int) : (∃ (k : Nat) (x : Tr), t = (k : Int) ∧ N.tr[k]? = some x ∧ canT x M = true ∧ ((bigM (fireT x M) = true ∧ fireV N M t = ([], 5)) ∨ (bigM (fireT x M) = false ∧ fireV N M t = (fireT x M, 0)))) ∨ ((fireV N M t).2 ≠ 0 ∧ (∀ (k : Nat) (x : Tr), t = (k : Int) → N.tr[k]? = some x → canT x M = false)) := by
  by_cases ht : t < 0
  · exact .inr ⟨by simp [fireV, ht], fun k x h => by omega⟩
  obtain ⟨k, rfl⟩ := Int.eq_ofNat_of_zero_le (show 0 ≤ t by omega)
  cases hx : N.tr[k]? with
  | none => exact .inr ⟨by simp [fireV, ht, hx], fun j x h h2 => by rw [Int.ofNat.inj h] at hx; rw [hx] at h2; cases h2⟩
  | some x =>
    have e : fireV N M (k : Int) = if canT x M then (if bigM (fireT x M) then ([], 5) else (fireT x M, 0)) else ([], 12) := by
      unfold fireV; rw [if_neg ht, Int.toNat_natCast, hx]
    cases hc : canT x M with
    | false =>
      rw [hc] at e
      exact .inr ⟨by rw [e]; simp, fun j y h h2 => by rw [Int.ofNat.inj h] at hx; rw [hx] at h2; cases h2; exact hc⟩
    | true =>
      rw [hc] at e
      refine .inl ⟨k, x, rfl, hx, hc, ?_⟩
      cases hb : bigM (fireT x M) with
      | true => rw [hb] at e; exact .inl ⟨rfl, e⟩
      | false => rw [hb] at e; exact .inr ⟨rfl, e⟩
theorem pump_more {N : Nt} : ∀ (l : List Int) (z x y : List Int) (k n : Nat), mkB N z = true → mkB N x = true → moreM z x → runV N z k l = (y, n, 0) →
    (runV N x k l).2.2 = 5 ∨ ((runV N x k l).2.2 = 0 ∧ (runV N x k l).1.length = x.length ∧ ∀ q : Nat, (runV N x k l).1.getD q 0 = x.getD q 0 + (y.getD q 0 - z.getD q 0)) := by
  intro l
  induction l with
  | nil =>
    intro z x y k n hz hx hm h
    have : z = y := by unfold runV at h; exact (Prod.mk.inj h).1
    subst this
    exact .inr ⟨rfl, rfl, fun q => by show x.getD q 0 = _; omega⟩
  | cons t l ih =>
    intro z x y k n hz hx hm h
    have hzM := mkM hz
    have hxM := mkM hx
    have hlz := mk_len hz
    have hlx := mk_len hx
    rcases fireV_cases N z t with ⟨j, u, rfl, hu, hc, ⟨hb, e⟩ | ⟨hb, e⟩⟩ | ⟨h0, _⟩
    · rw [runV_stop (by rw [e]; decide), e] at h; simp at h
    · rw [runV_step (by rw [e]), e] at h
      have hok : trOk u z.length := netOk_of (mk_nt hz) hlz j u hu
      have hok' : trOk u x.length := by rw [← hm.1]; exact hok
      have hcx : canT u x = true := canT_of (fun p hp => (hok.1.1 p hp).1) (fun p hp => by
        have h1 := canT_get hc p hp
        have h2 := hm.2 p
        have h3 := (hzM p).1
        omega)
      have hfz : ∀ q : Nat, (fireT u z).getD q 0 = z.getD q 0 + dl u q := fun q => (fire_real hok (fun q => (hzM q).1) hc q).1
      have hfx : ∀ q : Nat, (fireT u x).getD q 0 = x.getD q 0 + dl u q := fun q => (fire_real hok' (fun q => (hxM q).1) hcx q).1
      rcases fireV_cases N x (j : Int) with ⟨j', u', hj, hu', _, ⟨hb', e'⟩ | ⟨hb', e'⟩⟩ | ⟨_, hno⟩
      · left
        rw [runV_stop (by rw [e']; decide), e']
      · obtain rfl : j = j' := Int.ofNat.inj hj
        rw [hu] at hu'; cases hu'
        have hz' := fire_mk hz (t := (j : Int)) (by rw [e])
        have hx' := fire_mk hx (t := (j : Int)) (by rw [e'])
        rw [e] at hz'
        rw [e'] at hx'
        have hm' : moreM (fireT u z) (fireT u x) := ⟨by rw [fireT_len, fireT_len]; exact hm.1, fun q => by rw [hfz, hfx]; have := hm.2 q; omega⟩
        rw [runV_step (by rw [e']), e']
        rcases ih _ _ _ _ _ hz' hx' hm' h with h5 | ⟨h6, h7, h8⟩
        · exact .inl h5
        · refine .inr ⟨h6, by rw [h7, fireT_len], fun q => ?_⟩
          rw [h8 q, hfx, hfz]; omega
      · rw [hno j u rfl hu] at hcx; cases hcx
    · rw [runV_stop h0] at h; exact absurd (congrArg (fun r : List Int × Nat × Int => r.2.2) h) h0
/-- the pump of a certificate, from a marking that is greater -/
theorem pump_on {N : Nt} {z x y : List Int} {l : List Int} {n p : Nat} (hz : mkB N z = true) (hx : mkB N x = true) (hm : moreM z x) (h : run21 N z l = (y, n, 0)) (hy : ∀ q : Nat, z.getD q 0 ≤ y.getD q 0) (hp : z.getD p 0 < y.getD p 0) :
    (run21 N x l).2.2 = 5 ∨ ((run21 N x l).2.2 = 0 ∧ mkB N (run21 N x l).1 = true ∧ (run21 N x l).1.length = x.length ∧ moreM z (run21 N x l).1 ∧ x.getD p 0 < (run21 N x l).1.getD p 0) := by
  have hl : ¬ 1000 < l.length := by
    intro hl
    unfold run21 at h
    rw [hz, if_pos rfl, if_pos hl] at h
    simp at h
  have ez : run21 N z l = runV N z 0 l := by unfold run21; rw [hz, if_pos rfl, if_neg hl]
  have ex : run21 N x l = runV N x 0 l := by unfold run21; rw [hx, if_pos rfl, if_neg hl]
  rw [ez] at h
  rcases pump_more l z x y 0 n hz hx hm h with h5 | ⟨h6, h7, h8⟩
  · left; rw [ex]; exact h5
  · right
    rw [ex]
    refine ⟨h6, runV_mk l x 0 hx h6, h7, ⟨by rw [h7]; exact hm.1, fun q => ?_⟩, ?_⟩
    · rw [h8 q]; have := hm.2 q; have := hy q; omega
    · rw [h8 p]; omega
/-- the certificate with the other claim proves nothing -/
theorem wrong_bnd (N : Nt) (M : List Int) (LL : List (List Int)) : chkB N M ⟨6, 0, [], [], LL⟩ = false := by
  unfold chkB
  rw [if_neg (by simp)]
  have : badC N ⟨6, 0, [], [], LL⟩ = true := by simp [badC]
  rw [this]; simp
theorem wrong_om (N : Nt) (M : List Int) (p : Int) (L1 L2 : List Int) : chkB N M ⟨5, p, L1, L2, []⟩ = false := by
  unfold chkB
  rw [if_pos rfl]
  simp [closedB]
/-- what is fired stays in the certificate -/
theorem stays {N : Nt} {M : List Int} {most : Nat} {T : TS} (hv : mkB N M = true) (hg : growT N M most = some T) (hno : ∀ (j : Nat) (d : Nd), T.nodes[j]? = some d → d.om = false) {s : List Int} (hs : s ∈ T.states) {t : Int} (h0 : (fireV N s t).2 = 0) : (fireV N s t).1 ∈ T.states := by
  obtain ⟨hI, hD, hN, hM⟩ := grow_good hv hg
  obtain ⟨h1, h2⟩ := bounded_closed hI hD hN hM hno
  rcases fireV_cases N s t with ⟨k, x, rfl, hx, hc, ⟨_, e⟩ | ⟨_, e⟩⟩ | ⟨h, _⟩
  · rw [e] at h0; simp at h0
  · rw [e]; exact ((h2 s hs).2.2 k x hx hc).2
  · exact absurd h0 h
theorem states_mk {N : Nt} {M : List Int} {most : Nat} {T : TS} (hv : mkB N M = true) (hg : growT N M most = some T) (hno : ∀ (j : Nat) (d : Nd), T.nodes[j]? = some d → d.om = false) : M ∈ T.states ∧ ∀ s ∈ T.states, mkB N s = true := by
  obtain ⟨hI, hD, hN, hM⟩ := grow_good hv hg
  obtain ⟨h1, h2⟩ := bounded_closed hI hD hN hM hno
  exact ⟨h1, fun s hs => mk_of hv (h2 s hs).1 (h2 s hs).2.1⟩
/-- what the pump of the certificate does -/
theorem om_pump {N : Nt} {M : List Int} {most : Nat} {T : TS} {i : Nat} {d : Nd} {g : Nat} {z : Nd} {W1 W2 : List Nat} {p : Nat} (hv : mkB N M = true) (hg : growT N M most = some T) (hm : most ≤ 1000) (hf : FOm N T i d g z W1 W2 p) :
    run21 N M (W1.map Int.ofNat) = (z.ms, W1.length, 0) ∧ run21 N z.ms (W2.map Int.ofNat) = (d.pn, W2.length, 0) ∧ mkB N z.ms = true ∧ (∀ q : Nat, z.ms.getD q 0 ≤ d.pn.getD q 0) ∧ z.ms.getD p 0 < d.pn.getD p 0 ∧ p < M.length ∧ z.ms.length = M.length := by
  obtain ⟨_, _, _, e1, e2, l1, l2, hzM, hnn⟩ := om_cert hv hg hm hf
  have hz : mkB N z.ms = true := by have := run21_mk (N := N) (M := M) (l := W1.map Int.ofNat) (by rw [e1]); rwa [e1] at this
  have hle : ∀ q : Nat, z.ms.getD q 0 ≤ d.pn.getD q 0 := fun q => by
    rcases Nat.lt_or_ge q z.ms.length with hq | hq
    · have h1 := (lessE_iff _ _).1 (hf.le q hq)
      have h2 := hnn q
      rcases h1 with h1 | h1
      · omega
      · exact h1.2
    · rw [getD_out hq, getD_out (by omega)]; omega
  have hpl := hf.pl
  refine ⟨e1, e2, hz, hle, ?_, by omega, l1⟩
  have h1 := hle p
  have h2 := hf.df
  omega
end Go.Proofs.YtjojmmabcjccdaaDoor
