/- How far states are from one: two searches, the way, plain. -/
import Derived.Test.YtpiihmbeedlpkaaGreatDoorPUu
import Derived.Test.YtpiihmbeedlpkaaGreatDoorPHc
namespace Go.Proofs.YtpiihmbeedlpkaaGreatDoor

def fd (F : List Int) (k : Int) : Int := F.getD k.toNat 0
def mvOk (MV : List Mv) (n : Nat) : Prop := ∀ x ∈ MV, 0 ≤ x.f ∧ x.f < (n : Int) ∧ 0 ≤ x.t ∧ x.t < (n : Int)
structure BI (MV : List Mv) (goal n : Nat) (F : List Int) (Q : List Int) (i : Nat) (part : List Int) : Prop where
 len : F.length = n
 q0 : Q[0]? = some (goal : Int)
 nod : Q.Nodup
 rng : ∀ s ∈ Q, 0 ≤ s ∧ s < (n : Int)
 mem : ∀ s : Nat, s < n → (0 ≤ fd F s ↔ (s : Int) ∈ Q)
 neg : ∀ s : Nat, s < n → fd F s < 0 → fd F s = -1
 zero : fd F goal = 0
 mono : ∀ (a b : Nat) (s t : Int), a < b → Q[a]? = some s → Q[b]? = some t → fd F s ≤ fd F t
 close : ∀ (j : Nat) (s t : Int), Q[i]? = some s → Q[j]? = some t → fd F t ≤ fd F s + 1
 bound : ∀ (j : Nat) (s : Int), Q[j]? = some s → fd F s ≤ (j : Int)
 done : ∀ (j : Nat) (s : Int), j < i → Q[j]? = some s → ∀ x ∈ MV, x.t = s → 0 ≤ fd F x.f ∧ fd F x.f ≤ fd F s + 1
 prt : ∀ (s : Int), Q[i]? = some s → ∀ f ∈ part, 0 ≤ fd F f ∧ fd F f ≤ fd F s + 1
 par : ∀ (j : Nat) (s : Int), 0 < j → Q[j]? = some s → ∃ x ∈ MV, x.f = s ∧ 0 ≤ fd F x.t ∧ fd F s = fd F x.t + 1
theorem fd_set (F : List Int) (p k : Int) (x : Int) (h : 0 ≤ p) (hp : p < (F.length : Int)) (hk : 0 ≤ k) : fd (F.set p.toNat x) k = if p = k then x else fd F k := by
 unfold fd;rw [List.getD_eq_getElem?_getD, List.getD_eq_getElem?_getD, List.getElem?_set];by_cases e : p = k
 · subst e; rw [if_pos rfl, if_pos rfl, if_pos (by omega)]; rfl
 · rw [if_neg e, if_neg (by omega)]
theorem idx_cases {L : List Int} {d e : Int} {j : Nat} (h : (L ++ [d])[j]? = some e) : (j < L.length ∧ L[j]? = some e) ∨ (j = L.length ∧ e = d) := by
 rcases Nat.lt_or_ge j L.length with hj | hj
 · exact .inl ⟨hj, by rwa [List.getElem?_append_left hj] at h⟩
 · rw [List.getElem?_append_right hj] at h;rcases Nat.eq_zero_or_pos (j - L.length) with h0 | h0
   · rw [h0] at h; simp at h; exact .inr ⟨by omega, h.symm⟩
   · rw [List.getElem?_eq_none (by simp; omega)] at h; cases h
theorem BI.start (MV : List Mv) (goal n : Nat) (h : goal < n) : BI MV goal n ((List.replicate n (-1)).set goal 0) [(goal : Int)] 0 [] := by
 have hl : ((List.replicate n (-1 : Int)).set goal 0).length = n := by simp
 have hg : ∀ s : Nat, s < n → fd ((List.replicate n (-1 : Int)).set goal 0) s = if s = goal then 0 else -1 := by
  intro s hs;have := fd_set (List.replicate n (-1 : Int)) (goal : Int) (s : Int) 0 (by omega) (by simp; omega) (by omega);rw [Int.toNat_natCast] at this;rw [this];by_cases e : goal = s
  · subst e; simp
  · rw [if_neg (by omega), if_neg (by omega)]; unfold fd; simp [hs]
 have one : ∀ (j : Nat) (s : Int), [(goal : Int)][j]? = some s → j = 0 ∧ s = goal := by
  intro j s hj;cases j with
  | zero => simp at hj; exact ⟨rfl, hj.symm⟩
  | succ j => simp at hj
 refine ⟨hl, rfl, by simp, fun s hs => ?_, fun s hs => ?_, fun s hs h => ?_, by rw [hg goal h]; simp, ?_, ?_, ?_, ?_, ?_, ?_⟩
 · simp at hs; subst hs; omega
 · rw [hg s hs];by_cases e : s = goal
   · subst e; simp
   · rw [if_neg e]; simp; omega
 · rw [hg s hs] at h ⊢; split at h
   · omega
   · rw [if_neg ‹_›]
 · intro a b s t hab ha hb;have := one a s ha; have := one b t hb; omega
 · intro j s t hs ht;rw [(one _ s hs).2, (one _ t ht).2, hg goal h]; omega
 · intro j s hs;rw [(one _ s hs).2, hg goal h]; simp
 · intro j s hj; omega
 · intro s _ f hf; cases hf
 · intro j s hj hs;have := one j s hs; omega
theorem BI.pred {MV : List Mv} {goal n : Nat} {F Q : List Int} {i : Nat} {part : List Int} (h : BI MV goal n F Q i part) {c : Int} (hc : Q[i]? = some c) {x : Mv} (hx : x ∈ MV) (ht : x.t = c) (hn : mvOk MV n) :
 BI MV goal n (if fd F x.f < 0 then F.set x.f.toNat (fd F c + 1) else F) (if fd F x.f < 0 then Q ++ [x.f] else Q) i (part ++ [x.f]) := by
 obtain ⟨r1, r2, r3, r4⟩ := hn x hx;obtain ⟨s, hs⟩ := Int.eq_ofNat_of_zero_le r1;have hsn : s < n := by omega
 have hil : i < Q.length := (List.getElem?_eq_some_iff.1 hc).1;have hcm : c ∈ Q := List.mem_of_getElem? hc;have hcr := h.rng c hcm;obtain ⟨cn, hcn⟩ := Int.eq_ofNat_of_zero_le hcr.1;have hc0 : 0 ≤ fd F c := by rw [hcn]; exact (h.mem cn (by omega)).2 (by rw [← hcn]; exact hcm)
 by_cases hneg : fd F x.f < 0
 · rw [if_pos hneg, if_pos hneg];have hnm : x.f ∉ Q := by
    intro hm;rw [hs] at hneg hm;have := (h.mem s hsn).2 hm;omega
   have hg : ∀ k : Int, 0 ≤ k → fd (F.set x.f.toNat (fd F c + 1)) k = if x.f = k then fd F c + 1 else fd F k := fun k hk => fd_set F x.f k _ r1 (by rw [h.len]; exact r2) hk
   have old : ∀ k ∈ Q, fd (F.set x.f.toNat (fd F c + 1)) k = fd F k := fun k hk => by rw [hg k (h.rng k hk).1, if_neg (by rintro rfl; exact hnm hk)]
   have new : fd (F.set x.f.toNat (fd F c + 1)) x.f = fd F c + 1 := by rw [hg x.f r1, if_pos rfl]
   have keep : ∀ k : Int, 0 ≤ k → 0 ≤ fd F k → fd (F.set x.f.toNat (fd F c + 1)) k = fd F k := fun k hk h0 => by
    rw [hg k hk]; split
    · rename_i e; rw [← e] at h0; omega
    · rfl
   have hci : (Q ++ [x.f])[i]? = some c := by rw [List.getElem?_append_left hil]; exact hc
   refine ⟨by rw [List.length_set]; exact h.len, ?_, ?_, ?_, ?_, ?_, ?_, ?_, ?_, ?_, ?_, ?_, ?_⟩
   · rw [List.getElem?_append_left (by omega)]; exact h.q0
   · rw [List.nodup_append]; exact ⟨h.nod, by simp, fun a ha b hb => by simp at hb; subst hb; exact fun e => hnm (e ▸ ha)⟩
   · intro k hk;rcases List.mem_append.1 hk with hk | hk
     · exact h.rng k hk
     · simp at hk; subst hk; exact ⟨r1, r2⟩
   · intro k hk;rw [hg k (by omega)];by_cases e : x.f = k
     · rw [if_pos e]; simp [← e]; omega
     · rw [if_neg e, h.mem k hk]; simp; exact fun e' => absurd e'.symm e
   · intro k hk;rw [hg k (by omega)];by_cases e : x.f = k
     · rw [if_pos e]; omega
     · rw [if_neg e]; exact h.neg k hk
   · rw [old _ (List.mem_of_getElem? h.q0)]; exact h.zero
   · intro a b u v hab ha hb;rcases idx_cases hb with ⟨hb1, hb2⟩ | ⟨hb1, hb2⟩
     · rcases idx_cases ha with ⟨ha1, ha2⟩ | ⟨ha1, ha2⟩
       · rw [old u (List.mem_of_getElem? ha2), old v (List.mem_of_getElem? hb2)]; exact h.mono a b u v hab ha2 hb2
       · omega
     · rcases idx_cases ha with ⟨ha1, ha2⟩ | ⟨ha1, ha2⟩
       · subst hb2;rw [old u (List.mem_of_getElem? ha2), new]; exact h.close a c u hc ha2
       · omega
   · intro j u v hu hv;rw [hci] at hu; cases hu;rw [old c hcm];rcases idx_cases hv with ⟨hb1, hb2⟩ | ⟨hb1, hb2⟩
     · rw [old v (List.mem_of_getElem? hb2)]; exact h.close j c v hc hb2
     · subst hb2; rw [new]; omega
   · intro j u hu;rcases idx_cases hu with ⟨hb1, hb2⟩ | ⟨hb1, hb2⟩
     · rw [old u (List.mem_of_getElem? hb2)]; exact h.bound j u hb2
     · subst hb2; rw [new]; have := h.bound i c hc; omega
   · intro j u hj hu y hy hyt;rcases idx_cases hu with ⟨hb1, hb2⟩ | ⟨hb1, hb2⟩
     · obtain ⟨d1, d2⟩ := h.done j u hj hb2 y hy hyt;rw [old u (List.mem_of_getElem? hb2), keep y.f (hn y hy).1 d1]; exact ⟨d1, d2⟩
     · omega
   · intro u hu f hf;rw [hci] at hu; cases hu;rw [old c hcm];rcases List.mem_append.1 hf with hf | hf
     · obtain ⟨d1, d2⟩ := h.prt c hc f hf;rcases Int.lt_or_le f 0 with hf0 | hf0
       · -- a negative place reads place 0
         have e1 : fd (F.set x.f.toNat (fd F c + 1)) f = fd (F.set x.f.toNat (fd F c + 1)) 0 := by unfold fd; rw [Int.toNat_of_nonpos (by omega : f ≤ 0)]; rfl
         have e2 : fd F f = fd F 0 := by unfold fd; rw [Int.toNat_of_nonpos (by omega : f ≤ 0)]; rfl
         rw [e1, keep 0 (by omega) (by omega), ← e2]; exact ⟨d1, d2⟩
       · rw [keep f hf0 d1]; exact ⟨d1, d2⟩
     · simp at hf; subst hf; rw [new]; omega
   · intro j u hj hu;rcases idx_cases hu with ⟨hb1, hb2⟩ | ⟨hb1, hb2⟩
     · obtain ⟨y, hy, e1, e2, e3⟩ := h.par j u hj hb2;exact ⟨y, hy, e1, by rw [keep y.t (hn y hy).2.2.1 e2]; exact e2, by rw [old u (List.mem_of_getElem? hb2), keep y.t (hn y hy).2.2.1 e2]; exact e3⟩
     · subst hb2;exact ⟨x, hx, rfl, by rw [ht, old c hcm]; exact hc0, by rw [new, ht, old c hcm]⟩
 · rw [if_neg hneg, if_neg hneg];refine ⟨h.len, h.q0, h.nod, h.rng, h.mem, h.neg, h.zero, h.mono, h.close, h.bound, h.done, ?_, h.par⟩;intro u hu f hf;rcases List.mem_append.1 hf with hf | hf
   · exact h.prt u hu f hf
   · simp at hf; subst hf;rw [hc] at hu; cases hu;have hm : x.f ∈ Q := by rw [hs]; exact (h.mem s hsn).1 (by rw [← hs]; omega)
     obtain ⟨j, hj, e⟩ := List.getElem_of_mem hm;exact ⟨by omega, h.close j c x.f hc (by rw [List.getElem?_eq_getElem hj, e])⟩
theorem BI.next {MV : List Mv} {goal n : Nat} {F Q : List Int} {i : Nat} {part : List Int} (h : BI MV goal n F Q i part) {c : Int} (hc : Q[i]? = some c) (hp : ∀ x ∈ MV, x.t = c → x.f ∈ part) : BI MV goal n F Q (i + 1) [] := by
 refine ⟨h.len, h.q0, h.nod, h.rng, h.mem, h.neg, h.zero, h.mono, ?_, h.bound, ?_, (fun s _ f hf => by cases hf), h.par⟩
 · intro j s t hs ht;have h1 := h.close j c t hc ht;have h2 := h.mono i (i + 1) c s (by omega) hc hs;omega
 · intro j s hj hs x hx hxt;rcases Nat.lt_or_ge j i with hji | hji
   · exact h.done j s hji hs x hx hxt
   · obtain rfl : j = i := by omega
     rw [hc] at hs; cases hs;exact h.prt c hc x.f (hp x hx hxt)
theorem nodup_len : ∀ (n : Nat) (l : List Nat), l.Nodup → (∀ k ∈ l, k < n) → l.length ≤ n := by
 intro n
 induction n with
 | zero =>
  intro l _ h;cases l with
  | nil => simp
  | cons a l => have := h a (List.mem_cons_self ..); omega
 | succ n ih =>
  intro l hn h;have h1 := ih (l.erase n) (hn.erase n) (fun k hk => by
   have h2 := h k (List.mem_of_mem_erase hk);have h3 : k ≠ n := by rintro rfl; exact (hn.not_mem_erase) hk
   omega)
  rw [List.length_erase] at h1;split at h1 <;> omega
theorem BI.room {MV : List Mv} {goal n : Nat} {F Q : List Int} {i : Nat} {part : List Int} (h : BI MV goal n F Q i part) : Q.length ≤ n := by
 have h1 : (Q.map Int.toNat).Nodup := by
  have := h.nod;rw [List.Nodup, List.pairwise_map];refine List.Pairwise.imp_of_mem ?_ this;intro a b ha hb hne e;have := (h.rng a ha).1; have := (h.rng b hb).1;exact hne (by omega)
 have h2 : ∀ k ∈ Q.map Int.toNat, k < n := by
  intro k hk;obtain ⟨s, hs, rfl⟩ := List.mem_map.1 hk;have := h.rng s hs; omega
 have := nodup_len n _ h1 h2;simpa using this
structure IsD (MV : List Mv) (goal n : Nat) (F : List Int) : Prop where
 len : F.length = n
 neg : ∀ s : Nat, s < n → fd F s < 0 → fd F s = -1
 top : ∀ s : Nat, s < n → fd F s < (n : Int)
 zero : fd F goal = 0
 one : ∀ s : Nat, s < n → fd F s = 0 → s = goal
 le : ∀ x ∈ MV, 0 ≤ fd F x.t → 0 ≤ fd F x.f ∧ fd F x.f ≤ fd F x.t + 1
 step : ∀ s : Nat, s < n → 0 < fd F s → ∃ x ∈ MV, x.f = s ∧ 0 ≤ fd F x.t ∧ fd F s = fd F x.t + 1
theorem BI.isD {MV : List Mv} {goal n : Nat} {F Q : List Int} {i : Nat} (h : BI MV goal n F Q i []) (hi : Q.length ≤ i) (hn : mvOk MV n) : IsD MV goal n F := by
 have at_ : ∀ s : Nat, s < n → 0 ≤ fd F s → ∃ j : Nat, j < Q.length ∧ Q[j]? = some (s : Int) := by
  intro s hs h0;obtain ⟨j, hj, e⟩ := List.getElem_of_mem ((h.mem s hs).1 h0);exact ⟨j, hj, by rw [List.getElem?_eq_getElem hj, e]⟩
 refine ⟨h.len, h.neg, ?_, h.zero, ?_, ?_, ?_⟩
 · intro s hs;rcases Int.lt_or_le (fd F s) 0 with h0 | h0
   · omega
   · obtain ⟨j, hj, e⟩ := at_ s hs h0;have := h.bound j s e; have := h.room; omega
 · intro s hs h0;obtain ⟨j, hj, e⟩ := at_ s hs (by omega);rcases Nat.eq_zero_or_pos j with hj0 | hj0
   · subst hj0; rw [h.q0] at e; simp at e; omega
   · obtain ⟨x, _, _, e2, e3⟩ := h.par j s hj0 e;omega
 · intro x hx h0;have hr := hn x hx;obtain ⟨t, ht⟩ := Int.eq_ofNat_of_zero_le hr.2.2.1;rw [ht] at h0;obtain ⟨j, hj, e⟩ := at_ t (by omega) h0;rw [ht];exact h.done j t (by omega) e x hx ht
 · intro s hs h0;obtain ⟨j, hj, e⟩ := at_ s hs (by omega);rcases Nat.eq_zero_or_pos j with hj0 | hj0
   · subst hj0; rw [h.q0] at e; simp at e; rw [← e] at h0; rw [h.zero] at h0; omega
   · exact h.par j s hj0 e
end Go.Proofs.YtpiihmbeedlpkaaGreatDoor
