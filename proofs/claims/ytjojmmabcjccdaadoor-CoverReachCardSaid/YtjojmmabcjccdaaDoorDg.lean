/- Texts of markings are different for different markings; a map from them to numbers. -/
import Derived.Test.YtjojmmabcjccdaaDoorDf
import Derived.Maps.OwnSet
import Derived.StringKeys
namespace Go.Proofs.YtjojmmabcjccdaaDoor
open Go.RowKit Go.WideShapes

/-- the number that digits spell -/
def dval (l : List UInt8) : Nat := l.foldl (fun n c => 10 * n + (c.toNat - 48)) 0
theorem dval_snoc (l : List UInt8) (c : UInt8) : dval (l ++ [c]) = 10 * dval l + (c.toNat - 48) := by unfold dval; simp
theorem dig_byte (k : Nat) (h : k < 10) : (UInt8.ofNat (48 + k)).toNat = 48 + k := by
  simp [UInt8.toNat_ofNat']; omega
theorem dec_induct {P : Nat → List UInt8 → Prop} (h0 : ∀ u, u < 10 → P u [UInt8.ofNat (48 + u)]) (hs : ∀ u, 10 ≤ u → P (u / 10) (Lib.decDigits (u / 10)) → P u (Lib.decDigits (u / 10) ++ [UInt8.ofNat (48 + u % 10)])) : ∀ u, P u (Lib.decDigits u) := by
  intro u
  induction u using Nat.strongRecOn with
  | _ u ih =>
    by_cases h : u < 10
    · rw [Lib.decDigits_one h]; exact h0 u h
    · rw [Lib.decDigits, dif_neg h]; exact hs u (by omega) (ih (u / 10) (by omega))
theorem dec_dig (u : Nat) : ∀ c ∈ Lib.decDigits u, isDig c = true := by
  refine dec_induct (P := fun _ l => ∀ c ∈ l, isDig c = true) ?_ ?_ u
  · intro u hu c hc
    have : c = UInt8.ofNat (48 + u) := by simpa using hc
    subst this; unfold isDig; rw [dig_byte u hu]; simp; omega
  · intro u hu ih c hc
    rcases List.mem_append.1 hc with h | h
    · exact ih c h
    · have : c = UInt8.ofNat (48 + u % 10) := by simpa using h
      subst this; unfold isDig; rw [dig_byte _ (by omega)]; simp; omega
theorem dec_val (u : Nat) : dval (Lib.decDigits u) = u := by
  refine dec_induct (P := fun u l => dval l = u) ?_ ?_ u
  · intro u hu; unfold dval; simp only [List.foldl]; rw [dig_byte u hu]; omega
  · intro u hu ih; rw [dval_snoc, ih, dig_byte _ (by omega)]; omega
theorem dec_ne (u : Nat) : Lib.decDigits u ≠ [] := by
  refine dec_induct (P := fun _ l => l ≠ []) ?_ ?_ u
  · intro u hu; simp
  · intro u hu ih; simp
/-- the number that a text with digits spells -/
def numOf (s : List UInt8) : Int := match s with | [] => 0 | c :: r => if c.toNat = 45 then -(dval r : Int) else (dval (c :: r) : Int)
theorem numOf_itoa (n : Int) : numOf (Lib.itoa n) = n := by
  unfold Lib.itoa
  by_cases hn : n < 0
  · rw [if_pos hn]
    unfold numOf
    simp only
    rw [if_pos (by decide), dec_val]; omega
  · rw [if_neg hn]
    have hd := dec_dig n.toNat
    have hv := dec_val n.toNat
    have hne := dec_ne n.toNat
    cases hl : Lib.decDigits n.toNat with
    | nil => exact absurd hl hne
    | cons c r =>
      rw [hl] at hd hv
      have hc : 48 ≤ c.toNat ∧ c.toNat ≤ 57 := by have := hd c (List.mem_cons_self ..); unfold isDig at this; simpa using this
      unfold numOf
      simp only
      rw [if_neg (by omega), hv]; omega
theorem itoa_inj (a b : Int) (h : Lib.itoa a = Lib.itoa b) : a = b := by rw [← numOf_itoa a, h, numOf_itoa]

theorem itoa_no32 (n : Int) : ∀ c ∈ Lib.itoa n, c ≠ 32 := by
  intro c hc
  have hd : ∀ u : Nat, ∀ c ∈ Lib.decDigits u, c ≠ 32 := by
    intro u c hc e
    subst e
    have := dec_dig u _ hc
    revert this; decide
  unfold Lib.itoa at hc
  split at hc
  · rcases List.mem_cons.1 hc with h | h
    · subst h; decide
    · exact hd _ c h
  · exact hd _ c hc
theorem cut32 (a b r q : List UInt8) (ha : ∀ c ∈ a, c ≠ 32) (hb : ∀ c ∈ b, c ≠ 32) (h : a ++ 32 :: r = b ++ 32 :: q) : a = b ∧ r = q := by
  induction a generalizing b with
  | nil =>
    cases b with
    | nil => simp at h; exact ⟨rfl, h⟩
    | cons x b => simp at h; exact absurd h.1.symm (hb x (List.mem_cons_self ..))
  | cons x a ih =>
    cases b with
    | nil => simp at h; exact absurd h.1 (ha x (List.mem_cons_self ..))
    | cons y b =>
      simp at h
      obtain ⟨e, h2⟩ := h
      obtain ⟨e2, e3⟩ := ih b (fun c hc => ha c (List.mem_cons_of_mem _ hc)) (fun c hc => hb c (List.mem_cons_of_mem _ hc)) h2
      exact ⟨by rw [e, e2], e3⟩
theorem keyL_inj : ∀ (a b : List Int), keyL a = keyL b → a = b := by
  intro a
  induction a with
  | nil =>
    intro b h
    cases b with
    | nil => rfl
    | cons y b => simp [keyL] at h
  | cons x a ih =>
    intro b h
    cases b with
    | nil => simp [keyL] at h
    | cons y b =>
      have h' : Lib.itoa x ++ 32 :: keyL a = Lib.itoa y ++ 32 :: keyL b := by simpa [keyL] using h
      obtain ⟨e1, e2⟩ := cut32 _ _ _ _ (itoa_no32 x) (itoa_no32 y) h'
      rw [itoa_inj x y e1, ih b e2]
/-- a marking whose text can be made -/
def okZ (z : List Int) : Prop := i64s z ∧ z.length ≤ 1000000
def klit (z : List Int) : Lit := .string (keyL z)
theorem klit_inj {a b : List Int} (h : klit a = klit b) : a = b := by unfold klit at h; injection h with h; exact keyL_inj a b h
theorem klit_key {z : List Int} (h : okZ z) : keyOf Tryd.prog 9 (.string ⟨(keyL z).toArray⟩) = some (klit z) := by
  have := keyL_len z h.1
  exact WideMaps.keyOf_string_mk Tryd.underlying9 (by have h2 := h.2; unfold maxLen; simp [ByteArray.size]; omega)
/-- a map from the texts of markings to their places in a list -/
def KM (w : World) (mb : Nat) (L : List (List Int)) : Prop :=
  ∃ (n : Nat) (D : DataW Unit), w.ownsMap Tryd.prog 9 (plainElem Tryd.prog 3) mb n D ∧ n ≤ L.length ∧ L.length ≤ 1000000 ∧ (∀ z, Maps.has D (klit z) = decide (z ∈ L)) ∧ ∀ (k : Nat) (z : List Int), L[k]? = some z → ∀ zd, D.atKey (klit z) zd = .lit (.int .i64 (k : Int))
theorem KM.made (w : World) : KM (w.alloc (.map #[] 0)) w.heap.size [] :=
  ⟨0, .map [], World.ownsMap_made _ _ _ _, Nat.le_refl _, by simp, fun z => rfl, fun k z h => by simp at h⟩
theorem KM.lt {w : World} {mb : Nat} {L : List (List Int)} (h : KM w mb L) : mb < w.heap.size := by obtain ⟨n, D, h1, _⟩ := h; exact h1.lt
theorem KM.grown {w w' : World} {mb : Nat} {L : List (List Int)} {row : Option Nat} (h : KM w mb L) (hg : w.grownBy w' row) (hne : some mb ≠ row) : KM w' mb L := by
  obtain ⟨n, D, h1, h2⟩ := h
  exact ⟨n, D, h1.kept hg hne, h2⟩
theorem KM.below {w w' : World} {mb : Nat} {L : List (List Int)} (h : KM w mb L) (hb : Below w.heap.size w w') : KM w' mb L := by
  obtain ⟨n, D, h1, h2⟩ := h
  have hlt := h1.lt
  obtain ⟨es, clock, hb', r⟩ := h1
  exact ⟨n, D, ⟨es, clock, by rw [hb.block mb hlt]; exact hb', r⟩, h2⟩
theorem zeroInt (w : World) : (zeroValue 3).run Tryd.prog w = .ok (.int .i64 0) w := by kernel_rfl
theorem lit_inj {a b : Int} (h : (DataW.lit (.int .i64 a) : DataW Unit) = .lit (.int .i64 b)) : a = b := by cases h; rfl
theorem klit_is (z : List Int) : WideAt.IsKeyLit (klit z) := trivial
/-- a marking is looked up -/
theorem KM.look {w : World} {mb : Nat} {L : List (List Int)} (h : KM w mb L) {z : List Int} (hz : okZ z) (c0 : Int) (hc0 : ∀ k : Nat, L[k]? = some z → c0 = k) (h0 : z ∉ L → c0 = 0) :
    (Instr.lookup 113 (.map (some mb)) (.string ⟨(keyL z).toArray⟩) true).run Tryd.prog w = .ok (.tuple #[.int .i64 c0, .bool (decide (z ∈ L))]) w := by
  obtain ⟨n, D, h1, h2, _, h3, h4⟩ := h
  obtain ⟨v, ps, hrun, hR⟩ := h1.look_ok (Maps.string_keyed Tryd.underlying9) Tryd.underlying113 (zeroInt w) (plainElem_int Tryd.underlying3 (by decide)) (klit_key hz)
  rw [hrun, h3 z]
  have hv : v = .int .i64 c0 := by
    obtain ⟨c, rfl, hc, _⟩ := plainElem_int_inv Tryd.underlying3 hR
    simp only [Prod.mk.injEq] at hc
    by_cases hm : z ∈ L
    · obtain ⟨k, hk, e⟩ := List.getElem_of_mem hm
      have hk' : L[k]? = some z := by rw [List.getElem?_eq_getElem hk, e]
      rw [h4 k z hk'] at hc
      rw [hc0 k hk', lit_inj hc.1]
    · have : D.atKey (klit z) (.lit (.int .i64 0)) = .lit (.int .i64 0) := Maps.atKey_of_not_has (by rw [h3 z]; simpa using hm) _
      rw [this] at hc
      rw [h0 hm, lit_inj hc.1]
  rw [hv]
/-- a marking is put in -/
theorem KM.store {w : World} {mb : Nat} {L : List (List Int)} (h : KM w mb L) {z : List Int} (hz : okZ z) (hm : z ∉ L) (hl : L.length < 1000000) :
    ∃ w', (Instr.mapUpdate 113 (.map (some mb)) (.string ⟨(keyL z).toArray⟩) (.int .i64 (L.length : Int))).run Tryd.prog w = .ok () w' ∧ KM w' mb (L ++ [z]) ∧ w.grownBy w' (some mb) := by
  obtain ⟨n, D, h1, h2, h2', h3, h4⟩ := h
  have hwf : (Lit.int IntKind.i64 (L.length : Int)).wf = true := by simp [Lit.wf, IntKind.min, IntKind.max, IntKind.bits, IntKind.signed]; omega
  obtain ⟨w', hrun, hown, hgr⟩ := h1.update (Maps.string_keyed Tryd.underlying9) Tryd.underlying113 (by unfold maxLen; omega) (klit_key hz) (plainElem_int Tryd.underlying3 hwf)
  have hI : Maps.IsMap D := h1.isMap
  refine ⟨w', hrun, ⟨n + 1, _, hown, by rw [List.length_append]; simp; omega, by rw [List.length_append]; simp; omega, fun y => ?_, fun k y hk zd => ?_⟩, hgr⟩
  · by_cases e : y = z
    · subst e
      rw [Maps.has_put_same hI (klit_is _)]; simp
    · rw [Maps.has_put_other (fun h => e (klit_inj h)), h3 y]; simp [e]
  · by_cases e : y = z
    · subst e
      rw [Maps.atKey_put_same hI (klit_is _)]
      have : k = L.length := by
        rcases Nat.lt_or_ge k L.length with hlt | hge
        · rw [List.getElem?_append_left hlt] at hk
          exact absurd (List.mem_of_getElem? hk) hm
        · rcases Nat.eq_zero_or_pos (k - L.length) with h0 | h0
          · omega
          · rw [List.getElem?_append_right hge, List.getElem?_eq_none (by simp; omega)] at hk; cases hk
      rw [this]
    · rw [Maps.atKey_put_other (fun h => e (klit_inj h))]
      refine h4 k y ?_ zd
      rcases Nat.lt_or_ge k L.length with hlt | hge
      · rwa [List.getElem?_append_left hlt] at hk
      · rw [List.getElem?_append_right hge] at hk
        rcases Nat.eq_zero_or_pos (k - L.length) with h0 | h0
        · rw [h0] at hk; simp at hk; exact absurd hk.symm e
        · rw [List.getElem?_eq_none (by simp; omega)] at hk; cases hk
end Go.Proofs.YtjojmmabcjccdaaDoor
