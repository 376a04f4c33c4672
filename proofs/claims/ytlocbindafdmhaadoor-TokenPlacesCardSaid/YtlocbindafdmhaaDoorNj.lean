/- Rows of tokens as slices that are read; slices.Clone, Same of the reference: what a call returns. -/
import Derived.Test.YtlocbindafdmhaaDoorNf
import Derived.Test.YtlocbindafdmhaaDoorKy
import Derived.Test.YtlocbindafdmhaaDoorKr
namespace Go.Proofs.YtlocbindafdmhaaDoor
open Go.RowKit

def Td.cells (x : Td) : List Value := [.int .i64 x.k, .string x.u, .int .i64 x.n, .int .i64 x.l, .int .i64 x.c]
/-- the cells of tokens -/
def tdRow (L : List Td) : List Value := L.flatMap Td.cells
theorem tdRow_cons (a : Td) (L : List Td) : tdRow (a :: L) = a.cells ++ tdRow L := rfl
theorem tdRow_append (L M : List Td) : tdRow (L ++ M) = tdRow L ++ tdRow M := by unfold tdRow; simp
theorem tdRow_len (L : List Td) : (tdRow L).length = L.length * 5 := by
  induction L with
  | nil => rfl
  | cons a L ih => rw [tdRow_cons, List.length_append, ih, List.length_cons]; show 5 + _ = _; omega
theorem tdRow_at (L : List Td) : ∀ (k j : Nat) (h : k < L.length), j < 5 → (tdRow L)[k * 5 + j]? = (L[k].cells)[j]? := by
  induction L with
  | nil => intro k j h; simp at h
  | cons a L ih =>
    intro k j h hj
    have hl : a.cells.length = 5 := rfl
    cases k with
    | zero => rw [tdRow_cons, List.getElem?_append_left (by omega)]; simp
    | succ k =>
      rw [tdRow_cons, List.getElem?_append_right (by omega), hl, show (k + 1) * 5 + j - 5 = k * 5 + j by omega]
      exact ih k j (by simpa using h) hj
theorem tdRow_one (L : List Td) : ∀ u ∈ tdRow L, u.oneCell' = true := by
  intro u hu
  unfold tdRow at hu
  obtain ⟨x, _, hx⟩ := List.mem_flatMap.1 hu
  unfold Td.cells at hx
  simp at hx
  rcases hx with rfl | rfl | rfl | rfl | rfl <;> rfl
/-- a token that was read, with its place -/
def tkTd (x : Tk) : Td := ⟨x.1.k, ⟨x.1.t.toArray⟩, x.1.n, x.2.1, x.2.2⟩
theorem tkRow_td (L : List Tk) : tkRow L = tdRow (L.map tkTd) := by
  unfold tkRow tdRow; rw [List.flatMap_map]; rfl
theorem add_off (ad : Addr) (i j : Nat) (h : 0 < j) : ad.add (i * 5 + j) = ⟨(ad.add (i * 5)).block, (ad.add (i * 5)).off + j, none⟩ := by
  unfold Addr.add
  by_cases hi : i * 5 = 0
  · rw [if_neg (by omega), if_pos hi, hi, Nat.zero_add]
  · rw [if_neg (by omega), if_neg hi]; simp only [Nat.add_assoc]
/-- tokens at an address, cell by cell -/
theorem TkIn.news {w : World} {ad : Addr} {L : List Td} (h : TkIn w (some ad) L) : ∀ j u, (tdRow L)[j]? = some u → w.cell? (ad.add j) = some u := by
  intro j u hj
  have hlt : j < L.length * 5 := by
    rcases Nat.lt_or_ge j (L.length * 5) with h1 | h1
    · exact h1
    · rw [List.getElem?_eq_none (by rw [tdRow_len]; exact h1)] at hj; cases hj
  have hk : j / 5 < L.length := by omega
  have e : j = j / 5 * 5 + j % 5 := by omega
  obtain ⟨ad', hA, _, c0, c1, c2, c3, c4⟩ := h (j / 5) hk
  cases hA
  rw [e, tdRow_at L (j / 5) (j % 5) hk (by omega)] at hj
  rw [e]
  have h5 : j % 5 < 5 := by omega
  generalize j % 5 = r at *
  generalize L[j / 5] = x at *
  match r, h5 with
  | 0, _ => simp [Td.cells] at hj; subst hj; exact c0
  | 1, _ => simp [Td.cells] at hj; subst hj; rw [add_off _ _ _ (by omega)]; exact c1
  | 2, _ => simp [Td.cells] at hj; subst hj; rw [add_off _ _ _ (by omega)]; exact c2
  | 3, _ => simp [Td.cells] at hj; subst hj; rw [add_off _ _ _ (by omega)]; exact c3
  | 4, _ => simp [Td.cells] at hj; subst hj; rw [add_off _ _ _ (by omega)]; exact c4
/-- a row of one's own is a slice of tokens that is read -/
theorem own_tkin {w : World} {b n : Nat} {v : Value} {L : List Td} (h : w.ownsRow b 33 5 v n (tdRow L)) :
    ∃ A cap, v = .slice A n cap ∧ TkIn w A L ∧ L.length = n ∧ n ≤ cap ∧ cap ≤ 9223372036854775807 := by
  have hl := h.1
  rw [tdRow_len] at hl
  have hln : L.length = n := by omega
  rcases h.2 with ⟨hv, hn⟩ | ⟨g, cap, cur, hv, hg, hh, hnc, hc, _⟩
  · refine ⟨none, 0, by rw [hv, hn], fun i hi => ?_, hln, by omega, by omega⟩
    omega
  · subst hv
    refine ⟨some ⟨g, 0, none⟩, cap, rfl, fun i hi => ⟨_, rfl, ?_, ?_⟩, hln, hnc, hc⟩
    · have : g < w.heap.size := by
        rcases Nat.lt_or_ge g w.heap.size with h2 | h2
        · exact h2
        · simp [Array.getElem?_eq_none h2] at hh
      unfold Addr.add; split <;> exact this
    · have key : ∀ j u, j < 5 → (L[i].cells)[j]? = some u → w.cell? ((⟨g, 0, none⟩ : Addr).add (i * 5 + j)) = some u := by
        intro j u hj hu
        exact h.cells (g := g) rfl (i * 5 + j) u (by rw [tdRow_at L i j hi hj]; exact hu)
      refine ⟨key 0 _ (by omega) rfl, ?_, ?_, ?_, ?_⟩
      · have := key 1 _ (by omega) rfl; rw [add_off _ _ _ (by omega)] at this; exact this
      · have := key 2 _ (by omega) rfl; rw [add_off _ _ _ (by omega)] at this; exact this
      · have := key 3 _ (by omega) rfl; rw [add_off _ _ _ (by omega)] at this; exact this
      · have := key 4 _ (by omega) rfl; rw [add_off _ _ _ (by omega)] at this; exact this
/-- what Clone returns -/
def ClPost (L : List Td) (w : World) (e : Ending) (w' : World) : Prop := ∃ v, e = .returned v ∧ w'.ownsRow w.heap.size 33 5 v L.length (tdRow L) ∧ Below w.heap.size w w'
set_option maxHeartbeats 1600000 in
set_option maxRecDepth 100000 in
theorem clone_any (A : Option Addr) (n cap : Nat) (L : List Td) (w : World) (h : TkIn w A L) (hn : L.length = n) (hn4 : n ≤ 4000) :
    Calls Tryd.prog 24 #[.slice A n cap] w (ClPost L w) := by
  cases A with
  | none =>
    have h0 : L = [] := by
      cases L with
      | nil => rfl
      | cons a L => obtain ⟨ad, e, _⟩ := h 0 (by simp); cases e
    subst h0
    obtain rfl : n = 0 := by simpa using hn.symm
    clear h hn
    have he : ∀ w : World, (binOp .eql 23 (.slice none 0 cap) (.slice none 0 0)).run Tryd.prog w = .ok (.bool true) w := fun _ => rfl
    go_enter Tryd.func24, Tryd.ntmps24
    go_wp2_with fail
    go_ret
    exact ⟨_, rfl, World.ownsRow_nil _ _ _ _, Below.refl _ _⟩
  | some ad =>
    have H := Lib.hid h; clear h
    have HN := Lib.hid hn; clear hn
    obtain ⟨i0, hi, hz0, hz1, hz2⟩ := info_parts tkInfo
    have HI := Lib.hid (And.intro hi (And.intro hz0 (And.intro hz1 hz2)))
    clear hi hz0 hz1 hz2
    have he : ∀ w : World, (binOp .eql 23 (.slice (some ad) n cap) (.slice none 0 0)).run Tryd.prog w = .ok (.bool false) w := fun _ => rfl
    go_enter Tryd.func24, Tryd.ntmps24
    go_wp2_with (at_builtin; refine wpList_append_own _ rfl _ _ 23 rfl w.heap.size 33 i0 (.agg #[.int .i64 0, .string ⟨#[]⟩, .int .i64 0, .int .i64 0, .int .i64 0]) 5 48 Tryd.underlying23 HI.out.1 HI.out.2.1 HI.out.2.2.1 HI.out.2.2.2 rfl (by decide) (.slice (some ⟨w.heap.size, 0, none⟩) 0 0) 0 [] rfl ⟨rfl, .inr ⟨w.heap.size, 0, #[], rfl, Nat.le_refl _, Array.getElem?_push_size .., Nat.le_refl _, by unfold maxLen; omega, rfl, rfl⟩⟩ ad n cap (tdRow L) rfl (by rw [tdRow_len, HN.out]) ?c1 (tdRow_one L) ?c3 ?c4 ?c5 ?_)
    case c1 => exact (H.out.below (below_alloc w _)).news
    case c3 => unfold maxLen; omega
    case c4 => omega
    case c5 => simp
    intro v' w4 hown4 hgrow4 _
    have HO := Lib.hid hown4
    have HG := Lib.hid hgrow4
    clear hown4 hgrow4
    go_wp2_with fail
    go_ret
    refine ⟨_, rfl, ?_, Below.grown (row := some w.heap.size) (below_alloc w _) HG.out (by simp) (fun k hk => by cases hk; omega)⟩
    have := HO.out
    rw [HN.out]; exact this
/-- two tokens are the same but for their places -/
def Td.like (x y : Td) : Prop := x.k = y.k ∧ x.u = y.u ∧ x.n = y.n
set_option maxHeartbeats 3200000 in
set_option maxRecDepth 100000 in
theorem same_any (A1 A2 : Option Addr) (n c1 c2 : Nat) (L1 L2 : List Td) (w : World) (h1 : TkIn w A1 L1) (h2 : TkIn w A2 L2) (e1 : L1.length = n) (e2 : L2.length = n) (hn : n ≤ 1000000) (hl : ∀ i (a : i < L1.length) (b : i < L2.length), L1[i].like L2[i]) :
    Calls Tryd.prog 23 #[.slice A1 n c1, .slice A2 n c2] w fun e w' => e = .returned (.bool true) ∧ Below w.heap.size w w' := by
  have H1 := Lib.hid h1
  have H2 := Lib.hid h2
  have HL := Lib.hid hl
  have E1 := Lib.hid e1
  have E2 := Lib.hid e2
  clear h1 h2 hl e1 e2
  go_enter Tryd.func23, Tryd.ntmps23
  go_wp2_with fail
  go_loopg [5] (n) (fun g i wr => ∃ k : Nat, k + g = n ∧ i = .int .i64 k ∧ TkIn wr A1 L1 ∧ TkIn wr A2 L2 ∧ Below w.heap.size w wr)
  case atStart => exact ⟨0, by omega, rfl, H1.out, H2.out, Below.refl _ _⟩
  case round =>
    obtain ⟨k, hk, rfl, g1, g2, hB⟩ := hrel
    have hkl : k ≤ n := by omega
    have HK := Lib.hid hk
    have G1 := Lib.hid g1
    have G2 := Lib.hid g2
    have HB := Lib.hid hB
    clear hk g1 g2 hB H1 H2
    by_cases hlt : k < n
    · have k1 : k < L1.length := by rw [E1.out]; exact hlt
      have k2 : k < L2.length := by rw [E2.out]; exact hlt
      obtain ⟨ad1, rfl, p1, a0, a1, a2, _, _⟩ := G1.out k k1
      obtain ⟨ad2, rfl, p2, d0, d1, d2, _, _⟩ := G2.out k k2
      have hlk := HL.out k k1 k2
      generalize L1[k] = x at *
      generalize L2[k] = y at *
      obtain ⟨xk, xu, xn, xl, xc⟩ := x
      obtain ⟨yk, yu, yn, yl, yc⟩ := y
      obtain ⟨rfl, rfl, rfl⟩ := hlk
      clear k1 k2
      simp only at a0 a1 a2 d0 d1 d2
      have p1 : (k : Int) < (n : Int) := by omega
      go_wp2_with fail
      go_quiet (fail)
      go_wp2_with fail
      go_roundg (gk - 1)
      case measure => have := HK.out; omega
      case rel => exact ⟨k + 1, by have := HK.out; omega, by go_num, G1.out.below (below_drewN (Below.refl _ _) _), G2.out.below (below_drewN (Below.refl _ _) _), below_drewN HB.out _⟩
    · go_wp2_with fail
      go_ret
      exact ⟨rfl, HB.out⟩
end Go.Proofs.YtlocbindafdmhaaDoor
