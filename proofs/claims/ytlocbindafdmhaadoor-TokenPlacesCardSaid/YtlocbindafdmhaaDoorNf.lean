/- Joined tokens, in plain words; what the walks of Join hold on to. -/
import Derived.Test.YtlocbindafdmhaaDoorNe
import Derived.Test.YtlocbindafdmhaaDoorKx
namespace Go.Proofs.YtlocbindafdmhaaDoor
open Go.RowKit

/-- the text of a token -/
def Td.tx (t : Td) : List UInt8 := textK t.k t.n t.u.data.toList
/-- a token is valid -/
def Td.ok (t : Td) : Bool := validB t.k t.n t.u.data.toList
/-- token number i may stand where it stands -/
def okAt (L : List Td) (i : Nat) : Bool := match L[i]? with | some t => t.ok && !(decide (t.k = 5) && decide (i + 1 < L.length)) | none => true
/-- the tokens up to number k may stand where they stand -/
def okTo (L : List Td) (k : Nat) : Bool := (List.range k).all (okAt L)
theorem okTo_zero (L : List Td) : okTo L 0 = true := rfl
theorem okTo_succ (L : List Td) (k : Nat) : okTo L (k + 1) = (okTo L k && okAt L k) := by
  unfold okTo; rw [List.range_succ, List.all_append]; simp
/-- the tokens may be joined -/
def joinB (L : List Td) : Bool := okTo L L.length
theorem okTo_le (L : List Td) (k m : Nat) (h : k ≤ m) (hm : okTo L m = true) : okTo L k = true := by
  unfold okTo at *
  rw [List.all_eq_true] at *
  intro i hi
  exact hm i (List.mem_range.2 (by have := List.mem_range.1 hi; omega))
theorem joinB_no (L : List Td) (k : Nat) (h : k < L.length) (hk : okAt L k = false) : joinB L = false := by
  cases hj : joinB L with
  | false => rfl
  | true =>
    have := okTo_le L (k + 1) L.length (by omega) hj
    rw [okTo_succ, hk] at this
    simp at this
theorem okAt_at (L : List Td) (k : Nat) (h : k < L.length) : okAt L k = (L[k].ok && !(decide (L[k].k = 5) && decide (k + 1 < L.length))) := by
  unfold okAt; rw [List.getElem?_eq_getElem h]
theorem joinB_ok (L : List Td) (k : Nat) (h : k < L.length) (hj : joinB L = true) : L[k].ok = true := by
  have := okTo_le L (k + 1) L.length (by omega) hj
  rw [okTo_succ, okAt_at L k h] at this
  simp at this
  exact this.2.1
/-- how many tokens have a text: all but an end -/
def bodyN (L : List Td) : Nat := match L.getLast? with | some t => if t.k = 5 then L.length - 1 else L.length | none => 0
theorem bodyN_le (L : List Td) : bodyN L ≤ L.length := by
  unfold bodyN; split
  · split <;> omega
  · omega
theorem bodyN_end (L : List Td) (m : Nat) (h : L.length = m + 1) (hk : (L[m]'(by omega)).k = 5) : bodyN L = m := by
  unfold bodyN; rw [List.getLast?_eq_getElem?, List.getElem?_eq_getElem (by omega)]
  simp only [h, Nat.add_sub_cancel, if_pos hk]
theorem bodyN_all (L : List Td) (m : Nat) (h : L.length = m + 1) (hk : (L[m]'(by omega)).k ≠ 5) : bodyN L = m + 1 := by
  unfold bodyN; rw [List.getLast?_eq_getElem?, List.getElem?_eq_getElem (by omega)]
  simp only [h, Nat.add_sub_cancel, if_neg hk]
theorem bodyN_nil (L : List Td) (h : L.length = 0) : bodyN L = 0 := by
  have : L = [] := List.eq_nil_of_length_eq_zero h
  subst this; rfl
/-- texts with blanks between them -/
def jn : List Td → List UInt8
  | [] => []
  | t :: ts => t.tx ++ ts.flatMap (fun x => 32 :: x.tx)
theorem jn_snoc (L : List Td) (t : Td) : jn (L ++ [t]) = (if L = [] then t.tx else jn L ++ 32 :: t.tx) := by
  cases L with
  | nil => simp [jn]
  | cons a L => simp [jn]
theorem jn_take (L : List Td) (k : Nat) (h : k < L.length) : jn (L.take (k + 1)) = (if k = 0 then L[k].tx else jn (L.take k) ++ 32 :: L[k].tx) := by
  rw [List.take_succ_eq_append_getElem h, jn_snoc]
  by_cases hk : k = 0
  · subst hk; simp
  · rw [if_neg hk, if_neg (by intro e; have := congrArg List.length e; rw [List.length_take] at this; simp only [List.length_nil] at this; omega)]
theorem jn_take_le (L : List Td) (m : Nat) : ∀ k, k ≤ m → m ≤ L.length → (jn (L.take k)).length ≤ (jn (L.take m)).length := by
  intro k hk
  induction hk with
  | refl => intro _; exact Nat.le_refl _
  | @step m hkm ih =>
    intro h
    have hkm' : k ≤ m := hkm
    have h1 := ih (by omega)
    rw [jn_take L m (by omega)]
    split
    · rename_i h0; subst h0; have : k = 0 := by omega
      subst this; simp [jn]
    · simp; omega
/-- the text of joined tokens -/
def joinL (L : List Td) : List UInt8 := jn (L.take (bodyN L))
/-- what Join answers -/
def joinRet (L : List Td) : Ending := if joinB L then .returned (.tuple #[.string ⟨(joinL L).toArray⟩, .int .i64 0]) else .returned (.tuple #[.string ⟨#[]⟩, .int .i64 1])
theorem joinRet_no {L : List Td} (h : joinB L = false) : joinRet L = .returned (.tuple #[.string ⟨#[]⟩, .int .i64 1]) := by unfold joinRet; rw [h]; rfl
theorem joinRet_yes {L : List Td} (h : joinB L = true) : joinRet L = .returned (.tuple #[.string ⟨(joinL L).toArray⟩, .int .i64 0]) := by unfold joinRet; rw [h]; rfl

theorem Bld.below {B b2 : Nat} {l : List UInt8} {w w' : World} (h : Bld B b2 l w) (hb : Below w.heap.size w w') : Bld B b2 l w' := by
  unfold Bld at h ⊢
  have key : ∀ p, Lib.BuilderAtF 69 5 B b2 p (Lib.byteCells l) w → Lib.BuilderAtF 69 5 B b2 p (Lib.byteCells l) w' := by
    intro p hp
    have hlt := hp.lt
    obtain ⟨hB, v, hv, hown, hne⟩ := hp
    refine ⟨hB, v, ?_, ?_, hne⟩
    · rw [hb.block b2 hlt]; exact hv
    · obtain ⟨h1, h2⟩ := hown
      refine ⟨h1, ?_⟩
      rcases h2 with h2 | ⟨g, cap, cur, fz, hv2, hg2, hh, r⟩
      · exact .inl h2
      · have hglt : g < w.heap.size := by
          rcases Nat.lt_or_ge g w.heap.size with h3 | h3
          · exact h3
          · simp [Array.getElem?_eq_none h3] at hh
        exact .inr ⟨g, cap, cur, fz, hv2, hg2, by rw [hb.block g hglt]; exact hh, r⟩
  rcases h with h | h
  · exact .inl (key _ h)
  · exact .inr (key _ h)
theorem LB.below {w wr w' : World} {acc : List UInt8} (h : LB w wr acc) (hb : Below wr.heap.size wr w') : LB w w' acc :=
  ⟨h.1.below hb, h.2.trans (hb.mono h.2.size)⟩
theorem Tb.of {w w' : World} (h : Tb w) (hb : Below w.heap.size w w') : Tb w' := h.below hb
/-- tokens and the table of strconv -/
def JS (w wr : World) (A : Option Addr) (L : List Td) : Prop := TkIn wr A L ∧ Tb wr ∧ Below w.heap.size w wr
theorem JS.tk {w wr : World} {A : Option Addr} {L : List Td} (h : JS w wr A L) : TkIn wr A L := h.1
theorem JS.tb {w wr : World} {A : Option Addr} {L : List Td} (h : JS w wr A L) : Tb wr := h.2.1
theorem JS.bel {w wr : World} {A : Option Addr} {L : List Td} (h : JS w wr A L) : Below w.heap.size w wr := h.2.2
theorem JS.below {w wr w' : World} {A : Option Addr} {L : List Td} (h : JS w wr A L) (hb : Below wr.heap.size wr w') : JS w w' A L :=
  ⟨h.1.below hb, h.2.1.below hb, below_then h.2.2 hb⟩
end Go.Proofs.YtlocbindafdmhaaDoor
