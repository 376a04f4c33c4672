/- The certificates of Bounded prove their claims: plain. -/
import Derived.Test.YtjojmmabcjccdaaDoorIi
import Derived.Test.YtjojmmabcjccdaaDoorHe
namespace Go.Proofs.YtjojmmabcjccdaaDoor

theorem addN_le {most : Nat} {T T' : TS} {x : Nd} (h : addN most T x = some T') (hl : T.states.length ≤ most) : T'.states.length ≤ most := by
  unfold addN at h
  split at h
  · split at h
    · cases h
    · split at h
      · cases h
      · cases h; simp; omega
  · split at h
    · cases h
    · cases h; exact hl
theorem stepK_le {N : Nt} {most i k : Nat} {T T' : TS} (h : stepK N most i T k = some T') (hl : T.states.length ≤ most) : T'.states.length ≤ most := by
  unfold stepK at h
  split at h
  · split at h
    · split at h
      · cases h
      · exact addN_le h hl
    · cases h; exact hl
  · cases h; exact hl
theorem stepI_le {N : Nt} {most i : Nat} : ∀ (f k : Nat) (T T' : TS), stepI N most i f k T = some T' → T.states.length ≤ most → T'.states.length ≤ most := by
  intro f
  induction f with
  | zero => intro k T T' h hl; unfold stepI at h; cases h; exact hl
  | succ f ih =>
    intro k T T' h hl
    unfold stepI at h
    split at h
    · cases hs : stepK N most i T k with
      | none => rw [hs] at h; cases h
      | some T1 =>
        rw [hs] at h
        exact ih _ _ _ h (stepK_le hs hl)
    · cases h; exact hl
theorem growF_le {N : Nt} {most : Nat} : ∀ (f i : Nat) (T T' : TS), growF N most f i T = some T' → T.states.length ≤ most → T'.states.length ≤ most := by
  intro f
  induction f with
  | zero => intro i T T' h hl; unfold growF at h; cases h; exact hl
  | succ f ih =>
    intro i T T' h hl
    unfold growF at h
    split at h
    · split at h
      · cases hs : stepI N most i (N.tr.length + 1) 0 T with
        | none => rw [hs] at h; cases h
        | some T1 =>
          rw [hs] at h
          exact ih _ _ _ h (stepI_le _ _ _ _ hs hl)
      · exact ih _ _ _ h hl
    · cases h; exact hl
theorem growT_le {N : Nt} {m : List Int} {most : Nat} {T : TS} (h : growT N m most = some T) : T.states.length ≤ most := by
  unfold growT at h
  cases hs : addN most ⟨[], []⟩ ⟨m, m, -1, -1, 0, -1, false, false⟩ with
  | none => rw [hs] at h; cases h
  | some T1 =>
    rw [hs] at h
    exact growF_le _ _ _ _ h (addN_le hs (Nat.zero_le _))
/-- a marking, as a check -/
theorem mk_of {N : Nt} {M s : List Int} (h : mkB N M = true) (hl : s.length = M.length) (hs : isM s) : mkB N s = true := by
  unfold mkB
  have hn : s.any badK = false := by
    rw [List.any_eq_false]
    intro x hx
    obtain ⟨p, hp, rfl⟩ := List.getElem_of_mem hx
    have h1 := hs p
    have e : s.getD p 0 = s[p] := by simp [hp]
    rw [e] at h1
    unfold badK; simp; omega
  rw [mk_nt h, hl, mk_len h, hn]; simp
/-- the certificate of a bounded net -/
theorem bnd_cert {N : Nt} {M : List Int} {most : Nat} {T : TS} (hv : mkB N M = true) (hg : growT N M most = some T) (hm : most ≤ 60) (hno : ∀ (j : Nat) (d : Nd), T.nodes[j]? = some d → d.om = false) :
    chkB N M ⟨5, 0, [], [], T.states⟩ = true ∧ fitB ⟨5, 0, [], [], T.states⟩ = true ∧ omB T.states = false := by
  obtain ⟨hI, hD, hN, hM⟩ := grow_good hv hg
  obtain ⟨h1, h2⟩ := bounded_closed hI hD hN hM hno
  have hle := growT_le hg
  refine ⟨?_, ?_, ?_⟩
  · unfold chkB
    rw [hv, if_pos rfl, Bool.true_and]
    unfold closedB
    rw [decide_eq_true h1, Bool.true_and, Bool.and_eq_true, List.all_eq_true, List.all_eq_true]
    refine ⟨fun s hs => mk_of hv (h2 s hs).1 (h2 s hs).2.1, fun s hs => ?_⟩
    unfold okS
    rw [List.all_eq_true]
    intro t ht
    obtain ⟨x, hx⟩ : ∃ x, N.tr[t]? = some x := ⟨_, List.getElem?_eq_getElem (List.mem_range.1 ht)⟩
    cases hc : canT x s with
    | false => exact okT_can hx hc
    | true =>
      obtain ⟨h3, h4⟩ := (h2 s hs).2.2 t x hx hc
      have e : fireV N s (t : Int) = (fireT x s, 0) := by
        unfold fireV
        rw [if_neg (by omega), Int.toNat_natCast, hx]
        simp only [hc, if_true, h3, Bool.false_eq_true, if_false]
      rw [okT_fire hx hc, e]
      simp [h4]
  · unfold fitB
    have hlong : (T.states.any longM) = false := by
      rw [List.any_eq_false]
      intro s hs
      have h3 := (h2 s hs).1
      have h4 := mk_len hv
      have h5 := nt_small (mk_nt hv)
      unfold longM; simp; omega
    simp [hlong]; omega
  · cases ho : omB T.states with
    | false => rfl
    | true =>
      unfold omB at ho
      rw [List.any_eq_true] at ho
      obtain ⟨j, d, hd, hdo⟩ := (omega_iff hI hN hM).1 ho
      rw [hno j d hd] at hdo; cases hdo
/-- the certificate of a net that is not bounded -/
theorem om_cert {N : Nt} {M : List Int} {most : Nat} {T : TS} {i : Nat} {d : Nd} {g : Nat} {z : Nd} {W1 W2 : List Nat} {p : Nat} (hv : mkB N M = true) (hg : growT N M most = some T) (hm : most ≤ 1000) (hf : FOm N T i d g z W1 W2 p) :
    chkB N M ⟨6, p, W1.map Int.ofNat, W2.map Int.ofNat, []⟩ = true ∧ fitB ⟨6, p, W1.map Int.ofNat, W2.map Int.ofNat, []⟩ = true ∧ omB T.states = true ∧ (run21 N M (W1.map Int.ofNat)) = (z.ms, W1.length, 0) ∧ run21 N z.ms (W2.map Int.ofNat) = (d.pn, W2.length, 0) ∧ z.ms.length = M.length ∧ d.pn.length = M.length ∧ isM z.ms ∧ nonneg d.pn := by
  obtain ⟨hI, hD, hN, hM⟩ := grow_good hv hg
  have hle := growT_le hg
  have hF := hI.fine hN hM
  have hgi : g < i := (hf.w2.le hI).2 hf.ne
  have hno := no_omega hI hN hM i hf.fst
  have hz1 := hno g z (by omega) hf.anc
  have hzM := (hz1.2 hgi).1
  have hzp := (hz1.2 hgi).2
  have hdp := (hno i d (Nat.le_refl _) hf.at_).1
  have hfd := hF i d hf.at_
  have hfz := hF g z hf.anc
  have hl1 : W1.length ≤ 1000 := by have := (path_len hI hf.w1 hf.anc).2; omega
  have hl2 : W2.length ≤ 1000 := by have := (path_len hI hf.w2 hf.at_).2; omega
  have hsame : ∀ (b : Nat), b ≤ i → ∀ (j : Nat) (e : Nd), j < b → T.nodes[j]? = some e → e.ms = e.pn := fun b hb j e hj he => ((hno j e (by omega) he).2 (by omega)).2
  have r1 := path_run hI hf.w1 hI.root hf.anc (hsame g (by omega))
  have r2 := path_run hI hf.w2 hf.anc hf.at_ (hsame i (Nat.le_refl _))
  simp only at r1
  rw [if_neg hf.ne] at r2
  have r1' : runV N M 0 (W1.map Int.ofNat) = (z.ms, W1.length, 0) := by
    rw [r1]
    by_cases h0 : W1 = []
    · rw [if_pos h0]
    · rw [if_neg h0, hzp]
  have hzk : mkB N z.ms = true := mk_of hv hfz.lm hzM
  have e1 : run21 N M (W1.map Int.ofNat) = (z.ms, W1.length, 0) := by
    unfold run21; rw [hv, if_pos rfl, if_neg (by rw [List.length_map]; omega)]; exact r1'
  have e2 : run21 N z.ms (W2.map Int.ofNat) = (d.pn, W2.length, 0) := by
    unfold run21; rw [hzk, if_pos rfl, if_neg (by rw [List.length_map]; omega)]; exact r2
  have hpM : p < M.length := by have := hf.pl; rw [hfd.lp] at this; exact this
  have hnn : nonneg d.pn := fun q => by
    have h1 := hfd.ep q
    have h2 := hasO_no hdp q
    omega
  refine ⟨?_, ?_, ?_, e1, e2, hfz.lm, hfd.lp, hzM, hnn⟩
  · unfold chkB
    rw [hv, if_neg (by simp), Bool.true_and]
    have hb : badC N ⟨6, p, W1.map Int.ofNat, W2.map Int.ofNat, []⟩ = false := by
      have h4 := mk_len hv
      have h5 : W2.length ≠ 0 := fun h => hf.ne (List.eq_nil_of_length_eq_zero h)
      unfold badC
      simp [hf.ne]
      omega
    rw [hb]
    unfold pumpB
    simp only [e1, e2]
    have hlt : z.ms.getD p 0 < d.pn.getD p 0 := by
      have h1 := (lessE_iff _ _).1 (hf.le p (by rw [hfz.lm]; exact hpM))
      have h2 := hf.df
      have h3 := hnn p
      rcases h1 with h1 | h1
      · omega
      · have := h1.2; omega
    unfold endB
    rw [(atMost_iff _ _).2 hf.le]
    simp only [Int.toNat_natCast]
    rw [decide_eq_true hlt]; simp
  · unfold fitB; simp; omega
  · unfold omB
    rw [List.any_eq_true]
    exact (omega_iff hI hN hM).2 ⟨i, d, hf.at_, hf.om⟩
end Go.Proofs.YtjojmmabcjccdaaDoor
