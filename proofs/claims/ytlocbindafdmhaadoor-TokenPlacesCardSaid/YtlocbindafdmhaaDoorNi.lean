/- TokenJoins: what a call returns. -/
import Derived.Test.YtlocbindafdmhaaDoorNh
import Derived.Test.YtlocbindafdmhaaDoorKz
namespace Go.Proofs.YtlocbindafdmhaaDoor
open Go.RowKit

theorem esc_len2 (u : List UInt8) : (quoteL u).length ≤ 2 * u.length + 2 := by
  unfold quoteL; have := escL_len u; simp; omega
theorem tx_len (t : Td) (h : t.ok = true) (hu : t.u.size ≤ 100) : t.tx.length ≤ 202 := by
  unfold Td.tx textK
  have hl : t.u.data.toList.length ≤ 100 := by rw [len_byte]; exact hu
  split
  · rename_i h2
    unfold Td.ok at h
    rw [h2] at h
    obtain ⟨h0, h1⟩ := valid_n _ _ h
    have := Lib.itoa_length_le t.n (by omega) (by omega)
    omega
  · split
    · have := esc_len2 t.u.data.toList; omega
    · omega
theorem jn_len (L : List Td) : (∀ t ∈ L, t.tx.length ≤ 202) → (jn L).length ≤ 203 * L.length := by
  cases L with
  | nil => intro _; simp [jn]
  | cons a L =>
    intro h
    have h1 := h a (by simp)
    have h2 : ∀ M : List Td, (∀ t ∈ M, t.tx.length ≤ 202) → (M.flatMap (fun x => 32 :: x.tx)).length ≤ 203 * M.length := by
      intro M
      induction M with
      | nil => intro _; simp
      | cons b M ih =>
        intro hb
        have b1 := hb b (by simp)
        have b2 := ih (fun t ht => hb t (by simp [ht]))
        rw [List.flatMap_cons, List.length_append]
        simp only [List.length_cons]
        omega
    have h3 := h2 L (fun t ht => h t (by simp [ht]))
    simp only [jn, List.length_append, List.length_cons]
    omega
theorem joinB_all (L : List Td) (h : joinB L = true) : ∀ t ∈ L, t.ok = true := by
  intro t ht
  obtain ⟨i, hi, rfl⟩ := List.getElem_of_mem ht
  exact joinB_ok L i hi h
theorem small_short {L : List Td} (h : smallB L = true) : ∀ t ∈ L, t.u.size ≤ 100 := by
  intro t ht
  unfold smallB at h
  simp only [Bool.and_eq_true, Bool.not_eq_true'] at h
  have := List.any_eq_false.1 h.2 t ht
  unfold longB at this
  simpa using this
theorem small_few {L : List Td} (h : smallB L = true) : L.length ≤ 40 := by
  unfold smallB at h
  simp only [Bool.and_eq_true, decide_eq_true_eq] at h
  exact h.1
theorem small_join {L : List Td} (h : smallB L = true) (hj : joinB L = true) : (joinL L).length ≤ 8120 := by
  unfold joinL
  have hs := small_short h
  have hf := small_few h
  have ha := joinB_all L hj
  have := jn_len (L.take (bodyN L)) (fun t ht => tx_len t (ha t (List.mem_of_mem_take ht)) (hs t (List.mem_of_mem_take ht)))
  rw [List.length_take] at this
  omega

/-- the argument of a law on tokens: what the walk holds on to -/
def TA (w : World) (A : Option Addr) (L : List Td) : Prop := TkIn w A L ∧ Tb w ∧ PR w
theorem TA.below {w w' : World} {A : Option Addr} {L : List Td} (h : TA w A L) (hb : Below w.heap.size w w') : TA w' A L :=
  ⟨h.1.below hb, h.2.1.below hb, h.2.2.below hb⟩
theorem TA.tk {w : World} {A : Option Addr} {L : List Td} (h : TA w A L) : TkIn w A L := h.1
theorem TA.tb {w : World} {A : Option Addr} {L : List Td} (h : TA w A L) : Tb w := h.2.1
theorem TA.pr {w : World} {A : Option Addr} {L : List Td} (h : TA w A L) : PR w := h.2.2

set_option maxHeartbeats 3200000 in
set_option maxRecDepth 100000 in
theorem tokenJoins_walk (A : Option Addr) (n cap : Nat) (L : List Td) (w : World) (h : TA w A L) (hu : ∀ t ∈ L, t.u.size ≤ 9223372036854775807) (hn : L.length = n) (hc : n ≤ cap) (hcap : cap ≤ 9223372036854775807) :
    Calls Tryd.prog 5 #[.slice A n cap] w fun e w' => e = .returned (.bool true) ∧ Below w.heap.size w w' := by
  have H := Lib.hid h; clear h
  have HS := Lib.hid (fun w (h : TkIn w A L) => small_any A cap L w h hu (by omega))
  rw [hn] at HS
  clear hu
  cases hv : smallB L with
  | false =>
    rw [hv] at HS
    clear hv hn
    go_enter Tryd.func5, Tryd.ntmps5
    go_wp2_with fail
    ((with_reducible refine (awake_any _ H.out.pr).mono ?_); rintro e w1 ⟨rfl, hb1⟩)
    have HB := Lib.hid hb1
    replace H := Lib.hid (H.out.below hb1)
    clear hb1
    go_wp2_with fail
    ((with_reducible refine (HS.out _ H.out.tk).mono ?_); rintro e w2 ⟨rfl, hb2⟩)
    replace HB := Lib.hid (below_then HB.out hb2)
    replace H := Lib.hid (H.out.below hb2)
    clear hb2
    go_wp2_with fail
    ((with_reducible refine (awake_any _ H.out.pr).mono ?_); rintro e w3 ⟨rfl, hb3⟩)
    go_wp2_with fail
    go_ret
    exact ⟨rfl, below_then HB.out hb3⟩
  | true =>
    rw [hv] at HS
    have h40 := small_few hv
    have HJ1 := Lib.hid (fun w (h : TA w A L) => tjoin_any A n cap L w h.tk h.tb (fun t ht => by have := small_short hv t ht; omega) hn (by omega) hc hcap (fun hj => by have := small_join hv hj; omega))
    have HJ2 := Lib.hid (fun w (h : TA w A L) => rjoin_any A n cap L w h.tk (fun t ht => by have := small_short hv t ht; omega) hn (by omega) (fun hj => by have := small_join hv hj; omega))
    clear hv hn h40
    have HX : ∃ (s : ByteArray) (f : Int), joinRet L = .returned (.tuple #[.string s, .int .i64 f]) := by
      unfold joinRet; split
      · exact ⟨_, _, rfl⟩
      · exact ⟨_, _, rfl⟩
    obtain ⟨s, f, hx⟩ := HX
    rw [hx] at HJ1 HJ2
    clear hx
    go_enter Tryd.func5, Tryd.ntmps5
    go_wp2_with fail
    ((with_reducible refine (awake_any _ H.out.pr).mono ?_); rintro e w1 ⟨rfl, hb1⟩)
    have HB := Lib.hid hb1
    replace H := Lib.hid (H.out.below hb1)
    clear hb1
    go_wp2_with fail
    ((with_reducible refine (HS.out _ H.out.tk).mono ?_); rintro e w2 ⟨rfl, hb2⟩)
    replace HB := Lib.hid (below_then HB.out hb2)
    replace H := Lib.hid (H.out.below hb2)
    clear hb2
    go_wp2_with fail
    ((with_reducible refine (HJ1.out _ H.out).mono ?_); rintro e w3 ⟨rfl, hb3⟩)
    replace HB := Lib.hid (below_then HB.out hb3)
    replace H := Lib.hid (H.out.below hb3)
    clear hb3
    go_wp2_with fail
    ((with_reducible refine (HJ2.out _ H.out).mono ?_); rintro e w4 ⟨rfl, hb4⟩)
    replace HB := Lib.hid (below_then HB.out hb4)
    clear hb4
    go_wp2_with fail
    go_ret
    exact ⟨rfl, HB.out⟩
end Go.Proofs.YtlocbindafdmhaaDoor
