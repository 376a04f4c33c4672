/- strconv.Itoa, Decimal, Quote of the reference: what a call returns. -/
import Derived.Test.YtbbdgncjpbfooaaDoorNb
import Derived.Test.YtbbdgncjpbfooaaDoorShelfL
import Derived.Lib.ItoaLen
import Derived.Laws.IdiomStrings
import Derived.Laws.OwnMore
namespace Go.Proofs.YtbbdgncjpbfooaaDoor
open Go.RowKit

/-- the table that strconv reads -/
def Tb (w : World) : Prop := Lib.TabIs Tryd.prog w "internal/strconv.uint64pow10" .u64 Lib.pow10Tab
theorem gPow : Tryd.prog.globalNamed "internal/strconv.uint64pow10" = some 1 := by kernel_rfl
theorem Tb.below {w w' : World} (h : Tb w) (hb : Below w.heap.size w w') : Tb w' := by
  refine var?_below hb gPow ?_ h
  have h' := h
  unfold Tb Lib.TabIs World.var? at h'
  rw [gPow] at h'
  rcases Nat.lt_or_ge 1 w.heap.size with h2 | h2
  · exact h2
  · simp [Array.getElem?_eq_none h2] at h'
theorem below_grow_drewN (w : World) (k : Nat) (os : Array Obj) : Below w.heap.size w (Sort.grow (w.drewN k) os) := by
  refine ⟨rfl, rfl, rfl, ?_, fun i hi => ?_⟩
  · show w.heap.size ≤ (w.heap ++ os).size
    simp
  · show (w.heap ++ os)[i]? = w.heap[i]?
    rw [Array.getElem?_append_left hi]

theorem itoa_any (n : Int) (w : World) (h0 : -9223372036854775808 ≤ n) (h1 : n ≤ 9223372036854775807) (ht : Tb w) :
    Calls Tryd.prog 23 #[.int .i64 n] w fun e w' => e = .returned (.string ⟨(Lib.itoa n).toArray⟩) ∧ Below w.heap.size w w' :=
  (Tryd.strconv_Itoa n h0 h1 w ht).mono fun e w' ⟨h1, k, os, h2⟩ => ⟨h1, by rw [h2]; exact below_grow_drewN w k os⟩

theorem dec_step (n : Int) (h : 9 < n) : Lib.itoa n = Lib.itoa (n / 10) ++ [UInt8.ofNat (48 + (n % 10).toNat)] := by
  obtain ⟨u, rfl⟩ := Int.eq_ofNat_of_zero_le (show 0 ≤ n by omega)
  have e1 : ((u : Int) / 10) = ((u / 10 : Nat) : Int) := by omega
  have e2 : ((u : Int) % 10).toNat = u % 10 := by omega
  rw [e1, e2, Lib.itoa_nonneg, Lib.itoa_nonneg, Lib.decDigits, dif_neg (by omega)]
theorem dec_last (n : Int) (h0 : 0 ≤ n) (h : n ≤ 9) : Lib.itoa n = [UInt8.ofNat (48 + n.toNat)] := by
  obtain ⟨u, rfl⟩ := Int.eq_ofNat_of_zero_le h0
  rw [Lib.itoa_nonneg, Lib.decDigits_one (by omega)]; rfl
theorem dec_nstep (n : Int) (h : n < -9) : Lib.itoa n = Lib.itoa (n.tdiv 10) ++ [UInt8.ofNat (48 + (-(n.tmod 10)).toNat)] := by
  obtain ⟨u, hu⟩ := Int.eq_ofNat_of_zero_le (show 0 ≤ -n by omega)
  have hn : n = -(u : Int) := by omega
  subst hn
  have e1 : (-(u : Int)).tdiv 10 = -((u / 10 : Nat) : Int) := by rw [Int.neg_tdiv]; rfl
  have e2 : (-((-(u : Int)).tmod 10)).toNat = u % 10 := by rw [Int.neg_tmod, Int.neg_neg]; rfl
  rw [e1, e2, Lib.itoa_neg u (by omega), Lib.itoa_neg (u / 10) (by omega), Lib.decDigits, dif_neg (by omega)]; rfl
theorem dec_nlast (n : Int) (h0 : n < 0) (h : -9 ≤ n) : Lib.itoa n = [45, UInt8.ofNat (48 + (-n).toNat)] := by
  obtain ⟨u, hu⟩ := Int.eq_ofNat_of_zero_le (show 0 ≤ -n by omega)
  have hn : n = -(u : Int) := by omega
  subst hn
  rw [Lib.itoa_neg u (by omega), Lib.decDigits_one (by omega)]; simp

theorem enc_dig : ∀ k : Nat, k < 10 → Utf8.encode (48 + (k : Int)) = ⟨([UInt8.ofNat (48 + k)] : List UInt8).toArray⟩ := by
  decide +kernel
theorem enc_of (n : Int) (h0 : 0 ≤ n) (h9 : n ≤ 9) : Utf8.encode (48 + n) = ⟨([UInt8.ofNat (48 + n.toNat)] : List UInt8).toArray⟩ := by
  obtain ⟨k, rfl⟩ := Int.eq_ofNat_of_zero_le h0
  exact enc_dig k (by omega)
theorem str_snoc (l : List UInt8) (n : Int) (h0 : 0 ≤ n) (h9 : n ≤ 9) : (⟨l.toArray⟩ : ByteArray) ++ Utf8.encode (48 + n) = ⟨(l ++ [UInt8.ofNat (48 + n.toNat)]).toArray⟩ := by
  rw [enc_of n h0 h9, bytes_cat]
theorem enc_size (n : Int) (h0 : 0 ≤ n) (h9 : n ≤ 9) : (Utf8.encode (48 + n)).size = 1 := by
  rw [enc_of n h0 h9]; rfl

theorem enc_neg (m : Int) (h0 : m ≤ 0) (h9 : -9 ≤ m) : Utf8.encode (48 - m) = ⟨([UInt8.ofNat (48 + (-m).toNat)] : List UInt8).toArray⟩ := by
  have := enc_of (-m) (by omega) (by omega)
  rw [← this]; congr 1
theorem str_nsnoc (l : List UInt8) (m : Int) (h0 : m ≤ 0) (h9 : -9 ≤ m) : (⟨l.toArray⟩ : ByteArray) ++ Utf8.encode (48 - m) = ⟨(l ++ [UInt8.ofNat (48 + (-m).toNat)]).toArray⟩ := by
  rw [enc_neg m h0 h9, bytes_cat]
theorem enc_nsize (m : Int) (h0 : m ≤ 0) (h9 : -9 ≤ m) : (Utf8.encode (48 - m)).size = 1 := by
  rw [enc_neg m h0 h9]; rfl
theorem tmod_ten (n : Int) (h : n < 0) : -9 ≤ n.tmod 10 ∧ n.tmod 10 ≤ 0 := by
  have h1 := Int.lt_tmod_of_pos n (show (0 : Int) < 10 by decide)
  have h2 : (-n).tmod 10 = -(n.tmod 10) := Int.neg_tmod n 10
  have h3 := Int.tmod_nonneg 10 (show 0 ≤ -n by omega)
  omega
theorem tdiv_ten (n : Int) : (n.tdiv 10).natAbs = n.natAbs / 10 := by
  rw [Int.natAbs_tdiv]; rfl

set_option maxRecDepth 100000 in
/-- a row of bytes of the call's own -/
theorem conv_own (w : World) (B n cap : Nat) (a : Option Addr) (l : List UInt8) (hn : n = l.length) (hl : 0 < l.length) (h : w.ownsRow B 5 1 (.slice a n cap) n (Lib.byteCells l)) :
    (convert 81 9 (.slice a n cap)).run Tryd.prog w = .ok (.string ⟨l.toArray⟩) w := by
  rcases h.2 with ⟨hv, h0⟩ | ⟨g, cap', cur, hv, _, hh, hle, _, hsz, htk⟩
  · omega
  · injection hv with h1 _ h2
    subst h1 h2 hn
    refine run_convert_bytes_back w _ _ 5 ⟨g, 0, none⟩ cap l Tryd.underlying81 Tryd.underlying5 Tryd.underlying9 fun j hj => ?_
    have hg : w.cell? ⟨g, j, none⟩ = (Lib.byteCells l)[j]? := h.cellAt j (by omega)
    have e : (⟨g, 0, none⟩ : Addr).add j = ⟨g, j, none⟩ := by unfold Addr.add; split <;> simp_all
    rw [e, hg]
    simp [Lib.byteCells, List.getElem?_eq_getElem hj]
/-- the loop of literal: the row and what stands -/
def RB (w wr : World) (v : Value) (acc : List UInt8) : Prop := wr.ownsRow w.heap.size 5 1 v acc.length (Lib.byteCells acc) ∧ Below w.heap.size w wr
theorem RB.own {w wr : World} {v : Value} {acc : List UInt8} (h : RB w wr v acc) : wr.ownsRow w.heap.size 5 1 v acc.length (Lib.byteCells acc) := h.1
theorem RB.size {w wr : World} {v : Value} {acc : List UInt8} (h : RB w wr v acc) : w.heap.size ≤ wr.heap.size := h.2.size
theorem RB.start (w : World) : RB w (w.alloc (.cells #[.int .u8 34] 5)) (.slice (some ⟨w.heap.size, 0, none⟩) 1 1) [34] :=
  ⟨World.ownsRow_lit (size := 1) w #[.int .u8 34] 1 (Nat.le_refl _) (by decide) rfl, below_alloc w _⟩
theorem RB.slice {w wr : World} {v : Value} {acc : List UInt8} (h : RB w wr v acc) : ∃ o c, v = .slice o acc.length c := by
  rcases h.own.2 with ⟨hv, hn⟩ | ⟨g, cap, cur, hv, _⟩
  · exact ⟨none, 0, by rw [hv, hn]⟩
  · exact ⟨_, _, hv⟩
theorem own_len (o : Option Addr) (n m c : Nat) : (Value.slice o n c).ownBlock = (Value.slice o m c).ownBlock := by cases o <;> rfl
theorem RB.push {w wr w' : World} {v v' : Value} {acc : List UInt8} {c : UInt8} {o : Obj} (h : RB w wr v acc) (ho : w'.ownsRow w.heap.size 5 1 v' (acc.length + 1) (Lib.byteCells acc ++ [.int .u8 (c.toNat : Int)])) {row : Option Nat} (hg : (wr.alloc o).grownBy w' row) (hr : row = v.ownBlock) : RB w w' v' (acc ++ [c]) := by
  subst hr
  refine ⟨?_, ?_⟩
  · simpa [Lib.byteCells] using ho
  · exact (h.2.alloc h.2.size o).grown hg (by have := h.2.size; simp; omega) (fun k hk => (h.1.lt k hk).1)
end Go.Proofs.YtbbdgncjpbfooaaDoor
