/- CoverBounds: the walk through the statement. -/
import Derived.Test.YtjojmmabcjccdaaDoorHi
import Derived.Test.YtjojmmabcjccdaaDoorJf
namespace Go.Proofs.YtjojmmabcjccdaaDoor
open Go.RowKit

/-- an append of numbers that are read, nil let in, at a step of a region that draws its order -/
theorem step_append_rd {P : Program} {w : World} {ops : Array Oper} {o : Oper} {a : Act} {K : Act → World → Prop} {Q : Exit → Act → World → Prop} {E : Prop} (hgd : o.guard = none) (s x : Operand) (t : TypeId)
    (ho : o.op = .call { callee := .builtin .append, args := #[s, x], argTypes := #[t, t] })
    (base : Nat) (e : TypeId) (i : TypeInfo) (z : Value) (bytes : Nat) (ht : P.underlying t = some (.slice e)) (hi : P.info? e = some i) (hz : i.zero = some z)
    (hsize : i.size = 1) (hby : i.bytes = bytes) (hzs : z.cells.size = 1)
    (v : Value) (n : Nat) (xs : List Value) (hs : a.eval s = v) (hown : w.ownsRow base e 1 v n xs) (hv : v ≠ .slice none 0 0)
    (A : Option Addr) (m c : Nat) (M : List Int) (hx : a.eval x = .slice A m c) (hr : ZIn w A M) (hm : M.length = m)
    (h63 : n + m ≤ maxLen) (hbytes : (n + m) * bytes ≤ 140737488355328) (hbase : base ≤ w.heap.size)
    (h : ∀ v' w', w'.ownsRow base e 1 v' (n + m) (xs ++ M.map (Value.int .i64)) → w.grownBy w' v.ownBlock → v' ≠ .slice none 0 0 → K (a.put o.dst v') w') :
    if Region.wanted o (yielded ops a.tmps) = true then Oper.wp P o a w K Q else E := by
  have hw : Region.wanted o (yielded ops a.tmps) = true := by simp [Region.wanted, hgd]
  rw [if_pos hw]
  cases A with
  | some ad => exact wp_append_own w s x t ho base e i z 1 bytes ht hi hz hsize hby hzs (by decide) v n xs hs hown ad m c (M.map (Value.int .i64)) hx (by simp [hm]) (z_news hr) (by intro u hu; obtain ⟨y, _, rfl⟩ := List.mem_map.1 hu; rfl) h63 hbytes hbase fun v' w' h2 h3 h4 => h v' w' h2 h3 (fun e => hv (h4.1 e).1)
  | none =>
    have hM : M = [] := by
      cases M with
      | nil => rfl
      | cons y M => obtain ⟨ad, e, _⟩ := hr 0 (by simp); cases e
    subst hM
    obtain rfl : m = 0 := hm.symm
    unfold Oper.wp execOp
    simp only [ho, resolve, invoke, builtin, Sem.run_bind, Sem.run_pure, Result.andThen_ok, List.map_toArray, List.map_cons, List.map_nil, hs, hx, run_append_nils ht hi hown c]
    exact h v w (by simpa using hown) ⟨rfl, rfl, rfl, Nat.le_refl _, fun _ _ _ => rfl⟩ hv
theorem bn_no {P : Program} {f : FuncId} {args : Array Value} {N : Nt} {M : List Int} {place most : Int} {w : World} (h : Calls P f args w (BnPo N M place most w)) {k : Int} (hb : beR N [M] place most = .inl k) : Calls P f args w fun e w' => e = .returned (.tuple #[.int .i64 0, .int .i64 k]) ∧ Below w.heap.size w w' :=
  h.mono fun e w' h1 => by unfold BnPo at h1; rw [hb] at h1; exact ⟨h1.2, h1.1⟩
theorem bn_yes {P : Program} {f : FuncId} {args : Array Value} {N : Nt} {M : List Int} {p : Nat} {most : Int} {w : World} (h : Calls P f args w (BnPo N M (p : Int) most w)) {T : TS} (hb : beR N [M] (p : Int) most = .inr T) : Calls P f args w fun e w' => e = .returned (.tuple #[.int .i64 (bndR T.states p), .int .i64 0]) ∧ Below w.heap.size w w' :=
  h.mono fun e w' h1 => by unfold BnPo at h1; rw [hb, Int.toNat_natCast] at h1; exact ⟨h1.2, h1.1⟩
theorem cv_err {P : Program} {f : FuncId} {args : Array Value} {N : Nt} {M L : List Int} {most : Int} {w : World} (h : Calls P f args w (CvPo N M L most w)) {k : Int} (hb : beR N [M, L] 0 most = .inl k) : Calls P f args w fun e w' => e = .returned (.tuple #[.bool false, .slice none 0 0, .int .i64 k]) ∧ Below w.heap.size w w' :=
  h.mono fun e w' h1 => by unfold CvPo at h1; rw [hb] at h1; exact ⟨h1.2, h1.1⟩
theorem cv_no {P : Program} {f : FuncId} {args : Array Value} {N : Nt} {M L : List Int} {most : Int} {w : World} (h : Calls P f args w (CvPo N M L most w)) {T : TS} (hb : beR N [M, L] 0 most = .inr T) (hno : ∀ s ∈ T.states, covB L s = false) : Calls P f args w fun e w' => e = .returned (.tuple #[.bool false, .slice none 0 0, .int .i64 0]) ∧ Below w.heap.size w w' :=
  h.mono fun e w' h1 => by
    unfold CvPo at h1; rw [hb] at h1
    rcases h1.2 with ⟨h2, _⟩ | ⟨goal, F, v, _, h2, _⟩
    · exact ⟨h2, h1.1⟩
    · rw [lidx_no hno] at h2; omega
theorem cv_yes {P : Program} {f : FuncId} {args : Array Value} {N : Nt} {M L : List Int} {most : Int} {w : World} (h : Calls P f args w (CvPo N M L most w)) {T : TS} (hb : beR N [M, L] 0 most = .inr T) {goal : Nat} (hi : lidx (covB L) T.states = (goal : Int)) {s : List Int} (hs : T.states[goal]? = some s) (hc : covB L s = true) :
    Calls P f args w fun e w' => ∃ F A c, e = .returned (.tuple #[.bool true, .slice A (wayD (movesOf T) F goal (fd F 0).toNat 0).length c, .int .i64 0]) ∧ IsD (movesOf T) goal T.states.length F ∧ 0 ≤ fd F 0 ∧ NS w w' (.slice A (wayD (movesOf T) F goal (fd F 0).toNat 0).length c) (wayD (movesOf T) F goal (fd F 0).toNat 0) :=
  h.mono fun e w' h1 => by
    unfold CvPo at h1; rw [hb] at h1
    rcases h1.2 with ⟨_, h2⟩ | ⟨g, F, v, he, h2, h3, h4, h5, h6⟩
    · rw [h2 s (List.mem_of_getElem? hs)] at hc; cases hc
    · rw [hi] at h2
      obtain rfl : g = goal := by omega
      obtain ⟨A, c, rfl⟩ := h6.slice
      exact ⟨F, A, c, he, h4, h5, h6⟩
theorem rc_no {P : Program} {f : FuncId} {args : Array Value} {LL : List (List Int)} {MV : List Mv} {L : List Int} {Fs : Nat → List Int} {w : World} (h : Calls P f args w fun e w' => (lidx (covB L) LL = -1 ∧ e = .returned (.tuple #[.bool false, .slice none 0 0]) ∧ Below w.heap.size w w') ∨ ∃ (goal : Nat) (v' : Value), lidx (covB L) LL = (goal : Int) ∧ e = .returned (.tuple #[.bool true, v']) ∧ NS w w' v' (wayD MV (Fs goal) goal (fd (Fs goal) 0).toNat 0))
    (hno : ∀ s ∈ LL, covB L s = false) : Calls P f args w fun e w' => e = .returned (.tuple #[.bool false, .slice none 0 0]) ∧ Below w.heap.size w w' :=
  h.mono fun e w' h1 => by
    rcases h1 with ⟨_, h2⟩ | ⟨goal, v, h2, _⟩
    · exact h2
    · rw [lidx_no hno] at h2; omega
theorem rc_yes {P : Program} {f : FuncId} {args : Array Value} {LL : List (List Int)} {MV : List Mv} {L : List Int} {F : List Int} {w : World} (h : Calls P f args w fun e w' => (lidx (covB L) LL = -1 ∧ e = .returned (.tuple #[.bool false, .slice none 0 0]) ∧ Below w.heap.size w w') ∨ ∃ (goal : Nat) (v' : Value), lidx (covB L) LL = (goal : Int) ∧ e = .returned (.tuple #[.bool true, v']) ∧ NS w w' v' (wayD MV F goal (fd F 0).toNat 0))
    {goal : Nat} (hi : lidx (covB L) LL = (goal : Int)) : Calls P f args w fun e w' => ∃ A c, e = .returned (.tuple #[.bool true, .slice A (wayD MV F goal (fd F 0).toNat 0).length c]) ∧ NS w w' (.slice A (wayD MV F goal (fd F 0).toNat 0).length c) (wayD MV F goal (fd F 0).toNat 0) :=
  h.mono fun e w' h1 => by
    rcases h1 with ⟨h2, _⟩ | ⟨g, v, h2, h3, h4⟩
    · rw [hi] at h2; omega
    · rw [hi] at h2
      obtain rfl : g = goal := by omega
      obtain ⟨A, c, rfl⟩ := h4.slice
      exact ⟨A, c, h3, h4⟩
theorem ns_some {w w' : World} {A : Option Addr} {n c : Nat} {L : List Int} (h : NS w w' (.slice A n c) L) (hne : Value.slice A n c ≠ .slice none 0 0) : ∃ at_, A = some at_ := by
  rcases h.1.2 with ⟨hv, _⟩ | ⟨g, cap, cur, hv, _⟩
  · exact absurd hv hne
  · cases hv; exact ⟨_, rfl⟩
/-- what the errors are -/
theorem bounds_parts (N : Nt) (M L : List Int) (place most : Int) :
    (∃ f fp g : Int, f ≠ 0 ∧ faultR N M none 0 most = f ∧ faultR N M none place most = fp ∧ fp ≠ 0 ∧ beR N [M] place most = .inl fp ∧ faultR N M (some L) 0 most = g ∧ g ≠ 0 ∧ beR N [M, L] 0 most = .inl g) ∨
    (faultR N M none 0 most = 0 ∧ mkB N M = true ∧ 1 ≤ most ∧ most ≤ 1000 ∧
      ((faultR N M none place most = 2 ∧ beR N [M] place most = .inl 2) ∨ (faultR N M none place most = 0 ∧ 0 ≤ place ∧ place < N.pl ∧ (growT N M most.toNat = none → beR N [M] place most = .inl 13) ∧ ∀ T, growT N M most.toNat = some T → beR N [M] place most = .inr T)) ∧
      ((faultR N M (some L) 0 most = 1 ∧ beR N [M, L] 0 most = .inl 1) ∨ (faultR N M (some L) 0 most = 0 ∧ mkB N L = true ∧ (growT N M most.toNat = none → beR N [M, L] 0 most = .inl 13) ∧ ∀ T, growT N M most.toNat = some T → beR N [M, L] 0 most = .inr T))) := by
  unfold faultR beR
  simp only [List.all_cons, List.all_nil, Bool.and_true, List.headD_cons]
  cases hm : mkB N M with
  | false => exact .inl ⟨1, 1, 1, by decide, by simp, by simp, by decide, by simp, by simp, by decide, by simp⟩
  | true =>
    simp only [Bool.true_and, if_true]
    have hps := nt_small (mk_nt hm)
    cases hb : badR N 0 most with
    | true =>
      have h2 : badR N place most = true := by
        unfold badR at hb ⊢
        simp only [Bool.or_eq_true, decide_eq_true_eq] at hb ⊢
        omega
      rw [h2]
      cases hl : mkB N L with
      | false => exact .inl ⟨2, 2, 1, by decide, by simp, by simp, by decide, by simp, by simp, by decide, by simp⟩
      | true => exact .inl ⟨2, 2, 2, by decide, by simp, by simp, by decide, by simp, by simp, by decide, by simp⟩
    | false =>
      have h1 : 1 ≤ most ∧ most ≤ 1000 := by
        unfold badR at hb
        simp only [Bool.or_eq_false_iff, decide_eq_false_iff_not] at hb
        omega
      refine .inr ⟨by simp, trivial, h1.1, h1.2, ?_, ?_⟩
      · cases h2 : badR N place most with
        | true => exact .inl ⟨by simp, by simp⟩
        | false =>
          have h3 : 0 ≤ place ∧ place < N.pl := by
            unfold badR at h2
            simp only [Bool.or_eq_false_iff, decide_eq_false_iff_not] at h2
            omega
          refine .inr ⟨by simp, h3.1, h3.2, fun h => by simp [h], fun T h => by simp [h]⟩
      · cases hl : mkB N L with
        | false => exact .inl ⟨by simp, by simp⟩
        | true => exact .inr ⟨by simp, rfl, fun h => by simp [h], fun T h => by simp [h]⟩
/-- a space while a block that holds an empty one is written -/
theorem SpIn.kept {w w' : World} {v : Value} {LL : List (List Int)} {MV : List Mv} {fl : Bool} {rb : Nat} (h : SpIn w v LL MV fl) (hne : ∀ s ∈ LL, 0 < s.length) (hb : SpB w rb (.slice none 0 0) (.slice none 0 0) false) (hg : w.grownBy w' (some rb)) : SpIn w' v LL MV fl := by
  obtain ⟨A, c, A', c', rfl, h1, h2, h3, h4⟩ := h
  refine ⟨A, c, A', c', rfl, fun i hi => ?_, h2, fun i hi => ?_, h4⟩
  · obtain ⟨ad, e, hl, u, hc, hs⟩ := h1 i hi
    have hpos := hne _ (List.getElem_mem hi)
    have hbk : (ad.add i).block ≠ rb := by
      intro e1
      unfold SpB at hb
      unfold World.cell? at hc
      rw [e1, hb] at hc
      obtain ⟨Ax, nx, cx, hu, _, hn, _⟩ := hs
      subst hu
      generalize (ad.add i).off = o at hc
      generalize (ad.add i).spot = sp at hc
      cases sp with
      | none =>
        match o, hc with
        | 0, hc => simp at hc; omega
        | 1, hc => simp at hc; omega
        | 2, hc => simp at hc
        | o + 3, hc => simp at hc
      | some sp => simp at hc
    exact ⟨ad, e, by have := hg.size; omega, u, hg.cell hc (fun e1 => hbk (Option.some.inj e1)), sl_other hs hb hg⟩
  · obtain ⟨ad, e, hl, hc⟩ := h3 i hi
    have h0 := hc 0 _ (by omega) rfl
    have hbk : (ad.add (i * 3)).block ≠ rb := by
      intro e1
      unfold SpB at hb
      simp only [Nat.add_zero] at h0
      unfold World.cell? at h0
      rw [e1, hb] at h0
      generalize (ad.add (i * 3)).off = o at h0
      generalize (ad.add (i * 3)).spot = sp at h0
      cases sp with
      | none =>
        match o, h0 with
        | 0, hc => simp at hc
        | 1, hc => simp at hc
        | 2, hc => simp at hc
        | o + 3, hc => simp at hc
      | some sp => simp at h0
    rw [add_block] at hbk hl
    refine ⟨ad, e, by rw [add_block]; have := hg.size; omega, fun j u hj hu => hg.cell (hc j u hj hu) (fun e1 => hbk ?_)⟩
    have := Option.some.inj e1
    rwa [add_block] at this
end Go.Proofs.YtjojmmabcjccdaaDoor
