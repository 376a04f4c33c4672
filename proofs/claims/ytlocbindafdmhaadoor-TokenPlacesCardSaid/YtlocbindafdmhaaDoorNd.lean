/- The text of a token: what both calls return. A slice of tokens: what it reads as. -/
import Derived.Test.YtlocbindafdmhaaDoorNc
import Derived.Test.YtlocbindafdmhaaDoorMd
import Derived.Deep.Slices
namespace Go.Proofs.YtlocbindafdmhaaDoor
open Go.RowKit

/-- the text of a valid token -/
def textK (k n : Int) (u : List UInt8) : List UInt8 := if k = 2 then Lib.itoa n else if k = 3 then quoteL u else u
theorem textK_num (n : Int) (u : List UInt8) : textK 2 n u = Lib.itoa n := rfl
theorem textK_text (n : Int) (u : List UInt8) : textK 3 n u = quoteL u := rfl
theorem textK_else (k n : Int) (u : List UInt8) (h2 : k ≠ 2) (h3 : k ≠ 3) : textK k n u = u := by unfold textK; rw [if_neg h2, if_neg h3]
theorem valid_n (n : Int) (t : List UInt8) (h : validB 2 n t = true) : 0 ≤ n ∧ n ≤ 4503599627370496 := by
  rw [valid_num] at h; simp at h; exact h.2
theorem valid_t (n : Int) (t : List UInt8) (h : validB 3 n t = true) : t.length ≤ 16384 ∧ t.all isPr = true := by
  by_cases hn : n = 0
  · subst hn; rw [valid_text] at h; simp at h; exact ⟨h.1, by simpa using h.2⟩
  · rw [valid_bad _ _ _ (by omega) hn] at h; cases h

theorem mk_list (s : ByteArray) : (⟨s.data.toList.toArray⟩ : ByteArray) = s := rfl
set_option maxHeartbeats 800000 in
theorem ttext_any (k n l c : Int) (u : ByteArray) (w : World) (hT : Tb w) (hv : validB k n u.data.toList = true) :
    Calls Tryd.prog 47 #[.agg #[.int .i64 k, .string u, .int .i64 n, .int .i64 l, .int .i64 c]] w fun e w' => e = .returned (.string ⟨(textK k n u.data.toList).toArray⟩) ∧ Below w.heap.size w w' := by
  have HT := Lib.hid (hT.below (below_alloc w (.cells #[.int .i64 k, .string u, .int .i64 n, .int .i64 l, .int .i64 c] 33)))
  clear hT
  by_cases h2 : k = 2
  · subst h2
    obtain ⟨h0, h1⟩ := valid_n _ _ hv
    clear hv
    go_enter Tryd.func47, Tryd.ntmps47
    go_wp2_with fail
    ((with_reducible refine (itoa_any n _ (by omega) (by omega) HT.out).mono ?_); rintro e w1 ⟨rfl, hb1⟩)
    go_wp2_with fail
    go_ret
    exact ⟨rfl, below_then (below_alloc w _) hb1⟩
  by_cases h3 : k = 3
  · subst h3
    obtain ⟨h0, h1⟩ := valid_t _ _ hv
    rw [len_byte] at h0
    have HP := Lib.hid h1
    clear hv h1 h2
    go_enter Tryd.func47, Tryd.ntmps47
    go_wp2_with fail
    ((with_reducible refine (nquote_ok u _ h0 HP.out).mono ?_); rintro e w1 ⟨rfl, hb1⟩)
    go_wp2_with fail
    go_ret
    exact ⟨rfl, below_then (below_alloc w _) hb1⟩
  · have q2 : (k == 2) = false := by simpa using h2
    have q3 : (k == 3) = false := by simpa using h3
    have HV := Lib.hid (textK_else k n u.data.toList h2 h3)
    clear h2 h3 hv
    go_enter Tryd.func47, Tryd.ntmps47
    go_wp2_with fail
    go_ret
    exact ⟨ret_str (by rw [HV.out]), below_alloc w _⟩
set_option maxHeartbeats 800000 in
theorem rftext_any (k n l c : Int) (u : ByteArray) (w : World) (hv : validB k n u.data.toList = true) :
    Calls Tryd.prog 50 #[.agg #[.int .i64 k, .string u, .int .i64 n, .int .i64 l, .int .i64 c]] w fun e w' => e = .returned (.string ⟨(textK k n u.data.toList).toArray⟩) ∧ Below w.heap.size w w' := by
  by_cases h2 : k = 2
  · subst h2
    obtain ⟨h0, h1⟩ := valid_n _ _ hv
    have HN := Lib.hid (show n.natAbs < 10 ^ 16 by omega)
    clear hv
    go_enter Tryd.func50, Tryd.ntmps50
    go_wp2_with fail
    ((with_reducible refine (decimal_any 16 n _ HN.out (by omega) (by omega)).mono ?_); rintro e w1 ⟨rfl, rfl⟩)
    go_wp2_with fail
    go_ret
    exact ⟨rfl, below_alloc w _⟩
  by_cases h3 : k = 3
  · subst h3
    obtain ⟨h0, h1⟩ := valid_t _ _ hv
    rw [len_byte] at h0
    have HP := Lib.hid h1
    clear hv h1 h2
    go_enter Tryd.func50, Tryd.ntmps50
    go_wp2_with fail
    ((with_reducible refine (rquote_ok u _ h0 HP.out).mono ?_); rintro e w1 ⟨rfl, hb1⟩)
    go_wp2_with fail
    go_ret
    exact ⟨rfl, below_then (below_alloc w _) hb1⟩
  · have q2 : (k == 2) = false := by simpa using h2
    have q3 : (k == 3) = false := by simpa using h3
    have HV := Lib.hid (textK_else k n u.data.toList h2 h3)
    clear h2 h3 hv
    go_enter Tryd.func50, Tryd.ntmps50
    go_wp2_with fail
    go_ret
    exact ⟨ret_str (by rw [HV.out]), below_alloc w _⟩

/-- a token as its five cells say -/
structure Td where
  k : Int
  u : ByteArray
  n : Int
  l : Int
  c : Int
def Td.v (t : Td) : Value := .agg #[.int .i64 t.k, .string t.u, .int .i64 t.n, .int .i64 t.l, .int .i64 t.c]
/-- the cells of a token at an address -/
def TdAt (w : World) (p : Addr) (t : Td) : Prop :=
  w.cell? p = some (.int .i64 t.k) ∧ w.cell? ⟨p.block, p.off + 1, none⟩ = some (.string t.u) ∧ w.cell? ⟨p.block, p.off + 1 + 1, none⟩ = some (.int .i64 t.n) ∧ w.cell? ⟨p.block, p.off + 1 + 1 + 1, none⟩ = some (.int .i64 t.l) ∧ w.cell? ⟨p.block, p.off + 1 + 1 + 1 + 1, none⟩ = some (.int .i64 t.c)
theorem TdAt.below {w w' : World} {p : Addr} {t : Td} (h : TdAt w p t) (hp : p.block < w.heap.size) (hb : Below w.heap.size w w') : TdAt w' p t := by
  have hk : ∀ q : Addr, q.block = p.block → w'.cell? q = w.cell? q := fun q hq => hb.cell (by rw [hq]; exact hp)
  obtain ⟨h0, h1, h2, h3, h4⟩ := h
  exact ⟨(hk p rfl).trans h0, (hk ⟨p.block, _, none⟩ rfl).trans h1, (hk ⟨p.block, _, none⟩ rfl).trans h2, (hk ⟨p.block, _, none⟩ rfl).trans h3, (hk ⟨p.block, _, none⟩ rfl).trans h4⟩
/-- a slice of tokens reads as a list -/
def TkIn (w : World) (A : Option Addr) (L : List Td) : Prop :=
  ∀ i (h : i < L.length), ∃ ad, A = some ad ∧ (ad.add (i * 5)).block < w.heap.size ∧ TdAt w (ad.add (i * 5)) L[i]
theorem TkIn.below {w w' : World} {A : Option Addr} {L : List Td} (h : TkIn w A L) (hb : Below w.heap.size w w') : TkIn w' A L := by
  intro i hi
  obtain ⟨ad, e, hl, h0⟩ := h i hi
  exact ⟨ad, e, by have := hb.size; omega, h0.below hl hb⟩
end Go.Proofs.YtlocbindafdmhaaDoor
