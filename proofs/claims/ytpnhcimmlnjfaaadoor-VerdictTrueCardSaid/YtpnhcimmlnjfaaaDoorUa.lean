/- Rows of structs: of one's own, or read; in general (no program in sight). -/
import Derived.Laws.AppendOwn
import Derived.Laws.OwnMore
import Derived.Below
namespace Go.Proofs.YtpnhcimmlnjfaaaDoor
open Go.RowKit

section
variable {α : Type} {c : α → List Value} {K : Nat}
theorem row_len (hK : ∀ x, (c x).length = K) (L : List α) : (L.flatMap c).length = L.length * K := by
 induction L with
 | nil => simp
 | cons a L ih => rw [List.flatMap_cons, List.length_append, ih, hK, List.length_cons, Nat.add_mul, Nat.one_mul, Nat.add_comm]
theorem row_at (hK : ∀ x, (c x).length = K) (L : List α) : ∀ (i j : Nat) (h : i < L.length), j < K → (L.flatMap c)[i * K + j]? = (c L[i])[j]? := by
 induction L with
 | nil => intro i j h; simp at h
 | cons a L ih =>
  intro i j h hj
  have hl := hK a
  cases i with
  | zero => rw [List.flatMap_cons, Nat.zero_mul, Nat.zero_add, List.getElem?_append_left (by omega)]; rfl
  | succ i =>
   have e : (i + 1) * K + j = K + (i * K + j) := by rw [Nat.add_mul]; omega
   rw [List.flatMap_cons, List.getElem?_append_right (by omega), hl, e, Nat.add_sub_cancel_left]
   exact ih i j (by simpa using h) hj
theorem add_at (ad : Addr) (m j : Nat) (h : 0 < j) : ad.add (m + j) = ⟨(ad.add m).block, (ad.add m).off + j, none⟩ := by
 unfold Addr.add
 by_cases hi : m = 0
 · rw [if_neg (by omega), if_pos hi, hi, Nat.zero_add]
 · rw [if_neg (by omega), if_neg hi]; simp only [Nat.add_assoc]
theorem add_block (ad : Addr) (m : Nat) : (ad.add m).block = ad.block := by unfold Addr.add; split <;> rfl
/-- a slice of structs reads as a list -/
def Rd (c : α → List Value) (K : Nat) (w : World) (A : Option Addr) (L : List α) : Prop :=
 ∀ i (h : i < L.length), ∃ ad, A = some ad ∧ (ad.add (i * K)).block < w.heap.size ∧ ∀ j u, j < K → (c L[i])[j]? = some u → w.cell? (ad.add (i * K + j)) = some u
theorem Rd.below {w w' : World} {A : Option Addr} {L : List α} (h : Rd c K w A L) (hb : Below w.heap.size w w') : Rd c K w' A L := by
 intro i hi
 obtain ⟨ad, e, h1, h2⟩ := h i hi
 rw [add_block] at h1
 refine ⟨ad, e, by rw [add_block]; have := hb.size; omega, fun j u hj hu => ?_⟩
 rw [hb.cell (by rw [add_block]; exact h1)]
 exact h2 j u hj hu
theorem Rd.news (hK : ∀ x, (c x).length = K) (h0 : 0 < K) {w : World} {ad : Addr} {L : List α} (h : Rd c K w (some ad) L) : ∀ j u, (L.flatMap c)[j]? = some u → w.cell? (ad.add j) = some u := by
 intro j u hj
 have hlt : j < L.length * K := by
  rcases Nat.lt_or_ge j (L.length * K) with h1 | h1
  · exact h1
  · rw [List.getElem?_eq_none (by rw [row_len hK]; exact h1)] at hj; cases hj
 have hk : j / K < L.length := Nat.div_lt_of_lt_mul (by rw [Nat.mul_comm]; exact hlt)
 have e : j = j / K * K + j % K := by rw [Nat.mul_comm]; exact (Nat.div_add_mod j K).symm
 obtain ⟨ad', hA, _, hc⟩ := h (j / K) hk
 cases hA
 rw [e, row_at hK L (j / K) (j % K) hk (Nat.mod_lt _ h0)] at hj
 rw [e]
 exact hc _ u (Nat.mod_lt _ h0) hj
theorem row_one (hone : ∀ x, ∀ u ∈ c x, u.oneCell' = true) (L : List α) : ∀ u ∈ L.flatMap c, u.oneCell' = true := by
 intro u hu
 obtain ⟨x, _, hx⟩ := List.mem_flatMap.1 hu
 exact hone x u hx
end
end Go.Proofs.YtpnhcimmlnjfaaaDoor
