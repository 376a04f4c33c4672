/- strconv.Itoa, Decimal, Quote of the reference: what a call returns. -/
import Derived.Test.YtbbdgncjpbfooaaGreatDoorNb
import Derived.Test.YtbbdgncjpbfooaaGreatDoorShelfL
import Derived.Lib.ItoaLen
import Derived.Laws.IdiomStrings
import Derived.Laws.OwnMore
namespace Go.Proofs.YtbbdgncjpbfooaaGreatDoor
open Go.RowKit

/-- the table that strconv reads -/
def Tb (w : World) : Prop := Lib.TabIs Tryz.prog w "internal/strconv.uint64pow10" .u64 Lib.pow10Tab
theorem gPow : Tryz.prog.globalNamed "internal/strconv.uint64pow10" = some 1 := by kernel_rfl
theorem Tb.below {w w' : World} (h : Tb w) (hb : Below w.heap.size w w') : Tb w' := by
  refine var?_below hb gPow ?_ h
  have h' := h
  unfold Tb Lib.TabIs World.var? at h'
  rw [gPow] at h'
  rcases Nat.lt_or_ge 1 w.heap.size with h2 | h2
  · exact h2
  · simp [Array.getElem?_eq_none h2] at h'
theorem below_grow_drewN (w : World) (k : Nat) (os : Array Obj) : Below w.heap.size w (Sort.grow (w.drewN k) os) := by
  refine ⟨rfl, rfl, rfl, ?_, fun i hi => ?_⟩
  · show w.heap.size ≤ (w.heap ++ os).size
    simp
  · show (w.heap ++ os)[i]? = w.heap[i]?
    rw [Array.getElem?_append_left hi]

theorem itoa_any (n : Int) (w : World) (h0 : -9223372036854775808 ≤ n) (h1 : n ≤ 9223372036854775807) (ht : Tb w) :
    Calls Tryz.prog 32 #[.int .i64 n] w fun e w' => e = .returned (.string ⟨(Lib.itoa n).toArray⟩) ∧ Below w.heap.size w w' :=
  (Tryz.strconv_Itoa n h0 h1 w ht).mono fun e w' ⟨h1, k, os, h2⟩ => ⟨h1, by rw [h2]; exact below_grow_drewN w k os⟩

theorem dec_step (n : Int) (h : 9 < n) : Lib.itoa n = Lib.itoa (n / 10) ++ [UInt8.ofNat (48 + (n % 10).toNat)] := by
  obtain ⟨u, rfl⟩ := Int.eq_ofNat_of_zero_le (show 0 ≤ n by omega)
  have e1 : ((u : Int) / 10) = ((u / 10 : Nat) : Int) := by omega
  have e2 : ((u : Int) % 10).toNat = u % 10 := by omega
  rw [e1, e2, Lib.itoa_nonneg, Lib.itoa_nonneg, Lib.decDigits, dif_neg (by omega)]
theorem dec_last (n : Int) (h0 : 0 ≤ n) (h : n ≤ 9) : Lib.itoa n = [UInt8.ofNat (48 + n.toNat)] := by
  obtain ⟨u, rfl⟩ := Int.eq_ofNat_of_zero_le h0
  rw [Lib.itoa_nonneg, Lib.decDigits_one (by omega)]; rfl
theorem dec_nstep (n : Int) (h : n < -9) : Lib.itoa n = Lib.itoa (n.tdiv 10) ++ [UInt8.ofNat (48 + (-(n.tmod 10)).toNat)] := by
  obtain ⟨u, hu⟩ := Int.eq_ofNat_of_zero_le (show 0 ≤ -n by omega)
  have hn : n = -(u : Int) := by omega
  subst hn
  have e1 : (-(u : Int)).tdiv 10 = -((u / 10 : Nat) : Int) := by rw [Int.neg_tdiv]; rfl
  have e2 : (-((-(u : Int)).tmod 10)).toNat = u % 10 := by rw [Int.neg_tmod, Int.neg_neg]; rfl
  rw [e1, e2, Lib.itoa_neg u (by omega), Lib.itoa_neg (u / 10) (by omega), Lib.decDigits, dif_neg (by omega)]; rfl
theorem dec_nlast (n : Int) (h0 : n < 0) (h : -9 ≤ n) : Lib.itoa n = [45, UInt8.ofNat (48 + (-n).toNat)] := by
  obtain ⟨u, hu⟩ := Int.eq_ofNat_of_zero_le (show 0 ≤ -n by omega)
  have hn : n = -(u : Int) := by omega
  subst hn
  rw [Lib.itoa_neg u (by omega), Lib.decDigits_one (by omega)]; simp

theorem enc_dig : ∀ k : Nat, k < 10 → Utf8.encode (48 + (k : Int)) = ⟨([UInt8.ofNat (48 + k)] : List UInt8).toArray⟩ := by
  decide +kernel
theorem enc_of (n : Int) (h0 : 0 ≤ n) (h9 : n ≤ 9) : Utf8.encode (48 + n) = ⟨([UInt8.ofNat (48 + n.toNat)] : List UInt8).toArray⟩ := by
  obtain ⟨k, rfl⟩ := Int.eq_ofNat_of_zero_le h0
  exact enc_dig k (by omega)
theorem str_snoc (l : List UInt8) (n : Int) (h0 : 0 ≤ n) (h9 : n ≤ 9) : (⟨l.toArray⟩ : ByteArray) ++ Utf8.encode (48 + n) = ⟨(l ++ [UInt8.ofNat (48 + n.toNat)]).toArray⟩ := by
  rw [enc_of n h0 h9, bytes_cat]
theorem enc_size (n : Int) (h0 : 0 ≤ n) (h9 : n ≤ 9) : (Utf8.encode (48 + n)).size = 1 := by
  rw [enc_of n h0 h9]; rfl

theorem enc_neg (m : Int) (h0 : m ≤ 0) (h9 : -9 ≤ m) : Utf8.encode (48 - m) = ⟨([UInt8.ofNat (48 + (-m).toNat)] : List UInt8).toArray⟩ := by
  have := enc_of (-m) (by omega) (by omega)
  rw [← this]; congr 1
theorem str_nsnoc (l : List UInt8) (m : Int) (h0 : m ≤ 0) (h9 : -9 ≤ m) : (⟨l.toArray⟩ : ByteArray) ++ Utf8.encode (48 - m) = ⟨(l ++ [UInt8.ofNat (48 + (-m).toNat)]).toArray⟩ := by
  rw [enc_neg m h0 h9, bytes_cat]
theorem enc_nsize (m : Int) (h0 : m ≤ 0) (h9 : -9 ≤ m) : (Utf8.encode (48 - m)).size = 1 := by
  rw [enc_neg m h0 h9]; rfl
theorem tmod_ten (n : Int) (h : n < 0) : -9 ≤ n.tmod 10 ∧ n.tmod 10 ≤ 0 := by
  have h1 := Int.lt_tmod_of_pos n (show (0 : Int) < 10 by decide)
  have h2 : (-n).tmod 10 = -(n.tmod 10) := Int.neg_tmod n 10
  have h3 := Int.tmod_nonneg 10 (show 0 ≤ -n by omega)
  omega
theorem tdiv_ten (n : Int) : (n.tdiv 10).natAbs = n.natAbs / 10 := by
  rw [Int.natAbs_tdiv]; rfl

set_option maxHeartbeats 800000 in
theorem decimal_any (k : Nat) : ∀ (n : Int) (w : World), n.natAbs < 10 ^ k → -9223372036854775808 ≤ n → n ≤ 9223372036854775807 →
    Calls Tryz.prog 36 #[.int .i64 n] w fun e w' => e = .returned (.string ⟨(Lib.itoa n).toArray⟩) ∧ w = w' := by
  induction k with
  | zero =>
    intro n w hk h1 h2
    have hn0 : n = 0 := by simp at hk; omega
    have h0 : 0 ≤ n := by omega
    have h9 : n ≤ 9 := by omega
    have HT := Lib.hid (dec_last n h0 h9)
    clear hn0 hk
    go_enter Tryz.func36, Tryz.ntmps36
    go_wp2_with fail
    go_ret
    exact ⟨ret_str (by rw [HT.out]; exact enc_of n h0 h9), rfl⟩
  | succ k ih =>
    intro n w hk h1 h2
    have IH := Lib.hid ih; clear ih
    by_cases h0 : 0 ≤ n
    · by_cases h9 : n ≤ 9
      · have HT := Lib.hid (dec_last n h0 h9)
        clear hk
        go_enter Tryz.func36, Tryz.ntmps36
        go_wp2_with fail
        go_ret
        exact ⟨ret_str (by rw [HT.out]; exact enc_of n h0 h9), rfl⟩
      · have HT := Lib.hid (dec_step n (by omega))
        have hl := Lib.itoa_length_le (n / 10) (by omega) (by omega)
        have hm0 : 0 ≤ n % 10 := by omega
        have hm9 : n % 10 ≤ 9 := by omega
        have hsz := enc_size (n % 10) hm0 hm9
        have HK := Lib.hid (show (n / 10).natAbs < 10 ^ k by rw [Nat.pow_succ] at hk; omega)
        clear hk
        go_enter Tryz.func36, Tryz.ntmps36
        go_wp2_with fail
        ((with_reducible refine (IH.out (n / 10) _ HK.out (by omega) (by omega)).mono ?_); rintro e w1 ⟨rfl, rfl⟩)
        generalize Lib.itoa (n / 10) = t at *
        go_wp2_with fail
        go_ret
        exact ⟨ret_str (by rw [HT.out]; exact str_snoc t (n % 10) hm0 hm9), rfl⟩
    · by_cases h9 : -9 ≤ n
      · have HT := Lib.hid (dec_nlast n (by omega) h9)
        have hsz := enc_nsize n (by omega) h9
        clear hk
        go_enter Tryz.func36, Tryz.ntmps36
        go_wp2_with fail
        go_ret
        exact ⟨ret_str (by rw [HT.out]; exact str_nsnoc [45] n (by omega) h9), rfl⟩
      · have HT := Lib.hid (dec_nstep n (by omega))
        obtain ⟨m1, m2⟩ := tmod_ten n (by omega)
        have hq := tdiv_ten n
        have hq1 : -9223372036854775808 ≤ n.tdiv 10 := by omega
        have hq2 : n.tdiv 10 ≤ 9223372036854775807 := by omega
        have hl := Lib.itoa_length_le (n.tdiv 10) hq1 hq2
        have hsz := enc_nsize (n.tmod 10) m2 m1
        have HK := Lib.hid (show (n.tdiv 10).natAbs < 10 ^ k by rw [Nat.pow_succ] at hk; omega)
        clear hk hq
        have h9' : n < -9 := by omega
        go_enter Tryz.func36, Tryz.ntmps36
        go_wp2_with fail
        ((with_reducible refine (IH.out (n.tdiv 10) _ HK.out (by omega) (by omega)).mono ?_); rintro e w1 ⟨rfl, rfl⟩)
        generalize Lib.itoa (n.tdiv 10) = t at *
        go_wp2_with fail
        go_ret
        exact ⟨ret_str (by rw [HT.out]; exact str_nsnoc t (n.tmod 10) m2 m1), rfl⟩


set_option maxRecDepth 100000 in
/-- a row of bytes of the call's own -/
theorem conv_own (w : World) (B n cap : Nat) (a : Option Addr) (l : List UInt8) (hn : n = l.length) (hl : 0 < l.length) (h : w.ownsRow B 5 1 (.slice a n cap) n (Lib.byteCells l)) :
    (convert 97 9 (.slice a n cap)).run Tryz.prog w = .ok (.string ⟨l.toArray⟩) w := by
  rcases h.2 with ⟨hv, h0⟩ | ⟨g, cap', cur, hv, _, hh, hle, _, hsz, htk⟩
  · omega
  · injection hv with h1 _ h2
    subst h1 h2 hn
    refine run_convert_bytes_back w _ _ 5 ⟨g, 0, none⟩ cap l Tryz.underlying97 Tryz.underlying5 Tryz.underlying9 fun j hj => ?_
    have hg : w.cell? ⟨g, j, none⟩ = (Lib.byteCells l)[j]? := h.cellAt j (by omega)
    have e : (⟨g, 0, none⟩ : Addr).add j = ⟨g, j, none⟩ := by unfold Addr.add; split <;> simp_all
    rw [e, hg]
    simp [Lib.byteCells, List.getElem?_eq_getElem hj]
/-- the loop of literal: the row and what stands -/
def RB (w wr : World) (v : Value) (acc : List UInt8) : Prop := wr.ownsRow w.heap.size 5 1 v acc.length (Lib.byteCells acc) ∧ Below w.heap.size w wr
theorem RB.own {w wr : World} {v : Value} {acc : List UInt8} (h : RB w wr v acc) : wr.ownsRow w.heap.size 5 1 v acc.length (Lib.byteCells acc) := h.1
theorem RB.size {w wr : World} {v : Value} {acc : List UInt8} (h : RB w wr v acc) : w.heap.size ≤ wr.heap.size := h.2.size
theorem RB.start (w : World) : RB w (w.alloc (.cells #[.int .u8 34] 5)) (.slice (some ⟨w.heap.size, 0, none⟩) 1 1) [34] :=
  ⟨World.ownsRow_lit (size := 1) w #[.int .u8 34] 1 (Nat.le_refl _) (by decide) rfl, below_alloc w _⟩
theorem RB.slice {w wr : World} {v : Value} {acc : List UInt8} (h : RB w wr v acc) : ∃ o c, v = .slice o acc.length c := by
  rcases h.own.2 with ⟨hv, hn⟩ | ⟨g, cap, cur, hv, _⟩
  · exact ⟨none, 0, by rw [hv, hn]⟩
  · exact ⟨_, _, hv⟩
theorem own_len (o : Option Addr) (n m c : Nat) : (Value.slice o n c).ownBlock = (Value.slice o m c).ownBlock := by cases o <;> rfl
theorem RB.push {w wr w' : World} {v v' : Value} {acc : List UInt8} {c : UInt8} {o : Obj} (h : RB w wr v acc) (ho : w'.ownsRow w.heap.size 5 1 v' (acc.length + 1) (Lib.byteCells acc ++ [.int .u8 (c.toNat : Int)])) {row : Option Nat} (hg : (wr.alloc o).grownBy w' row) (hr : row = v.ownBlock) : RB w w' v' (acc ++ [c]) := by
  subst hr
  refine ⟨?_, ?_⟩
  · simpa [Lib.byteCells] using ho
  · exact (h.2.alloc h.2.size o).grown hg (by have := h.2.size; simp; omega) (fun k hk => (h.1.lt k hk).1)
set_option maxHeartbeats 3200000 in
set_option maxRecDepth 100000 in
theorem rlit_any (s : ByteArray) (w : World) (hs : s.size ≤ 1099511627776) :
    Calls Tryz.prog 71 #[.string s] w fun e w' => e = .returned (.string ⟨(quoteL s.data.toList).toArray⟩) ∧ Below w.heap.size w w' := by
  have H0 := Lib.hid (RB.start w)
  obtain ⟨i0, hi, hz0, hz1, hz2⟩ := info_parts byteInfo
  have HI := Lib.hid (And.intro hi (And.intro hz0 (And.intro hz1 hz2)))
  clear hi hz0 hz1 hz2
  go_enter Tryz.func71, Tryz.ntmps71
  go_wp2_with fail
  go_loopg [3, 4] (s.size) (fun g v i wr => ∃ k : Nat, k + g = s.size ∧ i = .int .i64 k ∧ RB w wr v (34 :: escL (s.data.toList.take k)))
  case atStart => exact ⟨0, by omega, rfl, H0.out⟩
  case round =>
    obtain ⟨k, hk, rfl, hRB⟩ := hrel
    obtain ⟨vo, vc, rfl⟩ := hRB.slice
    have HS := Lib.hid hRB
    have HK := Lib.hid hk
    have HL := Lib.hid (esc_take_len s k)
    have hle : k ≤ s.size := by omega
    clear hRB hk H0
    by_cases hlt : k < s.size
    · have HT := Lib.hid (esc_take s k hlt)
      generalize hacc : (34 :: escL (s.data.toList.take k)) = acc at *
      have HA := Lib.hid hacc
      have hlen : acc.length ≤ 2 * k + 1 := by rw [← hacc]; have := HL.out; simp; omega
      clear hacc
      by_cases h34 : (s[k].toNat : Int) = 34
      · have q1 : ((s[k].toNat : Int) == 34) = true := by rw [h34]; rfl
        have HE := Lib.hid (escB_yes s[k] (.inl h34))
        clear h34
        go_wp2_with (at_builtin; refine wpList_append_own _ rfl _ _ 97 rfl w.heap.size 5 i0 (.int .u8 0) 1 1 Tryz.underlying97 HI.out.1 HI.out.2.1 HI.out.2.2.1 HI.out.2.2.2 rfl (by decide) _ _ _ rfl (HS.out.own.alloc _) ⟨wr.heap.size, 0, none⟩ 1 1 [.int .u8 92] rfl rfl ?c1 ?c2 ?c3 ?c4 ?c5 ?_)
        case c1 =>
          intro j u hj
          match j, hj with
          | 0, hj => simp at hj; subst hj; simp [Addr.add]
        case c2 => intro u hu; simp at hu; subst hu; rfl
        case c3 => unfold maxLen; simp; omega
        case c4 => simp; omega
        case c5 => have := HS.out.size; simp; omega
        intro v' w2 hown hgrow _
        replace HS := Lib.hid (HS.out.push (c := 92) (by simpa using hown) hgrow (own_len _ _ _ _))
        clear hown hgrow
        obtain ⟨vo2, vc2, rfl⟩ := HS.out.slice
        go_wp2_with (at_builtin; refine wpList_append_own _ rfl _ _ 97 rfl w.heap.size 5 i0 (.int .u8 0) 1 1 Tryz.underlying97 HI.out.1 HI.out.2.1 HI.out.2.2.1 HI.out.2.2.2 rfl (by decide) _ _ _ rfl (HS.out.own.alloc _) ⟨w2.heap.size, 0, none⟩ 1 1 [.int .u8 (s[k].toNat : Int)] rfl rfl ?c1 ?c2 ?c3 ?c4 ?c5 ?_)
        case c1 =>
          intro j u hj
          match j, hj with
          | 0, hj => simp at hj; subst hj; simp [Addr.add]
        case c2 => intro u hu; simp at hu; subst hu; rfl
        case c3 => unfold maxLen; simp; omega
        case c4 => simp; omega
        case c5 => have := HS.out.size; simp; omega
        intro v' w3 hown hgrow _
        replace HS := Lib.hid (HS.out.push (c := s[k]) (by simpa using hown) hgrow (own_len _ _ _ _))
        clear hown hgrow
        go_wp2_with fail
        go_roundg (gk - 1)
        case measure => have := HK.out; omega
        case rel => exact ⟨k + 1, by have := HK.out; omega, by go_num, by rw [HT.out, HE.out, ← List.cons_append, HA.out]; simpa using HS.out⟩
      have q1 : ((s[k].toNat : Int) == 34) = false := by simp; omega
      by_cases h92 : (s[k].toNat : Int) = 92
      · have q2 : ((s[k].toNat : Int) == 92) = true := by rw [h92]; rfl
        have HE := Lib.hid (escB_yes s[k] (.inr h92))
        clear h34 h92
        go_wp2_with (at_builtin; refine wpList_append_own _ rfl _ _ 97 rfl w.heap.size 5 i0 (.int .u8 0) 1 1 Tryz.underlying97 HI.out.1 HI.out.2.1 HI.out.2.2.1 HI.out.2.2.2 rfl (by decide) _ _ _ rfl (HS.out.own.alloc _) ⟨wr.heap.size, 0, none⟩ 1 1 [.int .u8 92] rfl rfl ?c1 ?c2 ?c3 ?c4 ?c5 ?_)
        case c1 =>
          intro j u hj
          match j, hj with
          | 0, hj => simp at hj; subst hj; simp [Addr.add]
        case c2 => intro u hu; simp at hu; subst hu; rfl
        case c3 => unfold maxLen; simp; omega
        case c4 => simp; omega
        case c5 => have := HS.out.size; simp; omega
        intro v' w2 hown hgrow _
        replace HS := Lib.hid (HS.out.push (c := 92) (by simpa using hown) hgrow (own_len _ _ _ _))
        clear hown hgrow
        obtain ⟨vo2, vc2, rfl⟩ := HS.out.slice
        go_wp2_with (at_builtin; refine wpList_append_own _ rfl _ _ 97 rfl w.heap.size 5 i0 (.int .u8 0) 1 1 Tryz.underlying97 HI.out.1 HI.out.2.1 HI.out.2.2.1 HI.out.2.2.2 rfl (by decide) _ _ _ rfl (HS.out.own.alloc _) ⟨w2.heap.size, 0, none⟩ 1 1 [.int .u8 (s[k].toNat : Int)] rfl rfl ?c1 ?c2 ?c3 ?c4 ?c5 ?_)
        case c1 =>
          intro j u hj
          match j, hj with
          | 0, hj => simp at hj; subst hj; simp [Addr.add]
        case c2 => intro u hu; simp at hu; subst hu; rfl
        case c3 => unfold maxLen; simp; omega
        case c4 => simp; omega
        case c5 => have := HS.out.size; simp; omega
        intro v' w3 hown hgrow _
        replace HS := Lib.hid (HS.out.push (c := s[k]) (by simpa using hown) hgrow (own_len _ _ _ _))
        clear hown hgrow
        go_wp2_with fail
        go_roundg (gk - 1)
        case measure => have := HK.out; omega
        case rel => exact ⟨k + 1, by have := HK.out; omega, by go_num, by rw [HT.out, HE.out, ← List.cons_append, HA.out]; simpa using HS.out⟩
      · have q2 : ((s[k].toNat : Int) == 92) = false := by simp; omega
        have HE := Lib.hid (escB_no s[k] h34 h92)
        clear h34 h92
        go_wp2_with (at_builtin; refine wpList_append_own _ rfl _ _ 97 rfl w.heap.size 5 i0 (.int .u8 0) 1 1 Tryz.underlying97 HI.out.1 HI.out.2.1 HI.out.2.2.1 HI.out.2.2.2 rfl (by decide) _ _ _ rfl (HS.out.own.alloc _) ⟨wr.heap.size, 0, none⟩ 1 1 [.int .u8 (s[k].toNat : Int)] rfl rfl ?c1 ?c2 ?c3 ?c4 ?c5 ?_)
        case c1 =>
          intro j u hj
          match j, hj with
          | 0, hj => simp at hj; subst hj; simp [Addr.add]
        case c2 => intro u hu; simp at hu; subst hu; rfl
        case c3 => unfold maxLen; simp; omega
        case c4 => simp; omega
        case c5 => have := HS.out.size; simp; omega
        intro v' w2 hown hgrow _
        replace HS := Lib.hid (HS.out.push (c := s[k]) (by simpa using hown) hgrow (own_len _ _ _ _))
        clear hown hgrow
        go_wp2_with fail
        go_roundg (gk - 1)
        case measure => have := HK.out; omega
        case rel => exact ⟨k + 1, by have := HK.out; omega, by go_num, by rw [HT.out, HE.out, ← List.cons_append, HA.out]; simpa using HS.out⟩
    · have HX := Lib.hid (show s.data.toList.take k = s.data.toList from List.take_of_length_le (by rw [len_byte]; omega))
      generalize hacc : (34 :: escL (s.data.toList.take k)) = acc at *
      have HA := Lib.hid hacc
      have hlen : acc.length ≤ 2 * k + 1 := by rw [← hacc]; have := HL.out; simp; omega
      clear hacc
      go_wp2_with (at_builtin; refine wpList_append_own _ rfl _ _ 97 rfl w.heap.size 5 i0 (.int .u8 0) 1 1 Tryz.underlying97 HI.out.1 HI.out.2.1 HI.out.2.2.1 HI.out.2.2.2 rfl (by decide) _ _ _ rfl (HS.out.own.alloc _) ⟨wr.heap.size, 0, none⟩ 1 1 [.int .u8 34] rfl rfl ?c1 ?c2 ?c3 ?c4 ?c5 ?_)
      case c1 =>
        intro j u hj
        match j, hj with
        | 0, hj => simp at hj; subst hj; simp [Addr.add]
      case c2 => intro u hu; simp at hu; subst hu; rfl
      case c3 => unfold maxLen; simp; omega
      case c4 => simp; omega
      case c5 => have := HS.out.size; simp; omega
      intro v' w2 hown hgrow _
      replace HS := Lib.hid (HS.out.push (c := 34) (by simpa using hown) hgrow (own_len _ _ _ _))
      clear hown hgrow
      obtain ⟨vo2, vc2, rfl⟩ := HS.out.slice
      have HC := Lib.hid (conv_own w2 w.heap.size (acc.length + 1) vc2 vo2 (acc ++ [34]) (by simp) (by simp) (by simpa using HS.out.own))
      go_wp2_with fail
      rw [HC.out]
      simp only [Result.andThen]
      rw [Oper.upon_value]
      go_wp2_with fail
      go_ret
      exact ⟨ret_str (by rw [← HA.out, HX.out]; rfl), HS.out.2⟩

set_option maxHeartbeats 800000 in
theorem rquote_ok (s : ByteArray) (w : World) (hs : s.size ≤ 16384) (hp : s.data.toList.all isPr = true) :
    Calls Tryz.prog 68 #[.string s] w fun e w' => e = .returned (.tuple #[.string ⟨(quoteL s.data.toList).toArray⟩, .int .i64 0]) ∧ Below w.heap.size w w' := by
  have HP := Lib.hid hp; clear hp
  go_enter Tryz.func68, Tryz.ntmps68
  go_wp2_with fail
  ((with_reducible refine (sprintable_any s _ (by omega)).mono ?_); rintro e wn ⟨rfl, rfl⟩)
  rw [HP.out]
  go_wp2_with fail
  ((with_reducible refine (rlit_any s _ (by omega)).mono ?_); rintro e wn ⟨rfl, hb⟩)
  go_wp2_with fail
  go_ret2
  exact ⟨rfl, hb⟩
end Go.Proofs.YtbbdgncjpbfooaaGreatDoor
