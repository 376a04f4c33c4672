/- name.literal and name.Quote; literal and Quote of the reference: what a call returns. -/
import Derived.Test.YtbbdgncjpbfooaaGreatDoorNa
import Derived.Test.YtbbdgncjpbfooaaGreatDoorKj
import Derived.Test.YtbbdgncjpbfooaaGreatDoorKv
namespace Go.Proofs.YtbbdgncjpbfooaaGreatDoor
open Go.RowKit

/-- inside the loop of literal: the builder and what stands -/
def LB (w wr : World) (acc : List UInt8) : Prop := Bld w.heap.size w.heap.size acc wr ∧ Below w.heap.size w wr
theorem LB.start (w : World) : LB w (w.alloc (.cells #[.pointer none, .slice none 0 0] 122)) [] :=
  ⟨Lib.IsBuilderF.of (Lib.fresh_isBuilder 122 5 w), below_alloc w _⟩
theorem LB.write {w wr w' : World} {acc acc' : List UInt8} (h : LB w wr acc) (hB : Bld w.heap.size w.heap.size acc' w') (hl : Below w.heap.size wr w') : LB w w' acc' :=
  ⟨hB, h.2.trans hl⟩
theorem LB.bld {w wr : World} {acc : List UInt8} (h : LB w wr acc) : Bld w.heap.size w.heap.size acc wr := h.1
theorem LB.size {w wr : World} {acc : List UInt8} (h : LB w wr acc) : w.heap.size ≤ wr.heap.size := h.2.size
theorem escB_yes (c : UInt8) (h : (c.toNat : Int) = 34 ∨ (c.toNat : Int) = 92) : escB c = [92, c] := by unfold escB; rw [if_pos (by omega)]
theorem escB_no (c : UInt8) (h : (c.toNat : Int) ≠ 34) (h' : (c.toNat : Int) ≠ 92) : escB c = [c] := by unfold escB; rw [if_neg (by omega)]
theorem esc_take (s : ByteArray) (k : Nat) (h : k < s.size) : escL (s.data.toList.take (k + 1)) = escL (s.data.toList.take k) ++ escB s[k] := by
  rw [take_byte s k h, escL_snoc]
theorem esc_take_len (s : ByteArray) (k : Nat) : (escL (s.data.toList.take k)).length ≤ 2 * k := by
  have h1 := escL_len (s.data.toList.take k)
  have h2 : (s.data.toList.take k).length ≤ k := List.length_take_le _ _
  omega

theorem writeByte_at (m : Int) (c : UInt8) (hm : (c.toNat : Int) = m) (B b : Nat) (l : List UInt8) (w : World) (h : Bld B b l w) (hlen : l.length + 1 ≤ 140737488355328) (hBw : B ≤ w.heap.size) :
    Calls Tryz.prog 93 #[.pointer (some ⟨b, 0, none⟩), .int .u8 m] w fun e w' => e = .returned .nilIface ∧ (Bld B b (l ++ [c]) w' ∧ Below B w w' ∧ Lib.OthersKept 5 (some b) w w') := by
  subst hm; exact writeByte_any B b l c w h hlen hBw

set_option maxHeartbeats 3200000 in
theorem nlit_any (s : ByteArray) (w : World) (hs : s.size ≤ 1099511627776) :
    Calls Tryz.prog 66 #[.string s] w fun e w' => e = .returned (.string ⟨(quoteL s.data.toList).toArray⟩) ∧ Below w.heap.size w w' := by
  have H0 := Lib.hid (LB.start w)
  go_enter Tryz.func66, Tryz.ntmps66
  go_wp2_with fail
  ((with_reducible refine (writeByte_at 34 34 rfl w.heap.size w.heap.size [] _ H0.out.bld (by simp) H0.out.size).mono ?_); rintro e wn ⟨rfl, hB2, hl2, _⟩)
  replace H0 := Lib.hid (H0.out.write hB2 hl2)
  clear hB2 hl2
  go_wp2_with fail
  go_loopg [8] (s.size) (fun g i wr => ∃ k : Nat, k + g = s.size ∧ i = .int .i64 k ∧ LB w wr (34 :: escL (s.data.toList.take k)))
  case atStart => exact ⟨0, by omega, rfl, H0.out⟩
  case round =>
    obtain ⟨k, hk, rfl, hLB⟩ := hrel
    have HS := Lib.hid hLB
    have HK := Lib.hid hk
    have HL := Lib.hid (esc_take_len s k)
    have hle : k ≤ s.size := by omega
    clear hLB hk H0
    by_cases hlt : k < s.size
    · have HT := Lib.hid (esc_take s k hlt)
      by_cases h34 : (s[k].toNat : Int) = 34
      · have q1 : ((s[k].toNat : Int) == 34) = true := by rw [h34]; rfl
        have HE := Lib.hid (escB_yes s[k] (.inl h34))
        clear h34
        go_wp2_with fail
        ((with_reducible refine (writeByte_at 92 92 rfl w.heap.size w.heap.size _ _ HS.out.bld (by have := HL.out; simp; omega) HS.out.size).mono ?_); rintro e wn ⟨rfl, hB2, hl2, _⟩)
        replace HS := Lib.hid (HS.out.write hB2 hl2)
        clear hB2 hl2
        go_wp2_with fail
        ((with_reducible refine (writeByte_any w.heap.size w.heap.size _ (s[k]) _ HS.out.bld (by have := HL.out; simp; omega) HS.out.size).mono ?_); rintro e wn ⟨rfl, hB2, hl2, _⟩)
        replace HS := Lib.hid (HS.out.write hB2 hl2)
        clear hB2 hl2
        go_wp2_with fail
        go_roundg (gk - 1)
        case measure => have := HK.out; omega
        case rel => exact ⟨k + 1, by have := HK.out; omega, by go_num, by rw [HT.out, HE.out]; simpa using HS.out⟩
      have q1 : ((s[k].toNat : Int) == 34) = false := by simp; omega
      by_cases h92 : (s[k].toNat : Int) = 92
      · have q2 : ((s[k].toNat : Int) == 92) = true := by rw [h92]; rfl
        have HE := Lib.hid (escB_yes s[k] (.inr h92))
        clear h34 h92
        go_wp2_with fail
        ((with_reducible refine (writeByte_at 92 92 rfl w.heap.size w.heap.size _ _ HS.out.bld (by have := HL.out; simp; omega) HS.out.size).mono ?_); rintro e wn ⟨rfl, hB2, hl2, _⟩)
        replace HS := Lib.hid (HS.out.write hB2 hl2)
        clear hB2 hl2
        go_wp2_with fail
        ((with_reducible refine (writeByte_any w.heap.size w.heap.size _ (s[k]) _ HS.out.bld (by have := HL.out; simp; omega) HS.out.size).mono ?_); rintro e wn ⟨rfl, hB2, hl2, _⟩)
        replace HS := Lib.hid (HS.out.write hB2 hl2)
        clear hB2 hl2
        go_wp2_with fail
        go_roundg (gk - 1)
        case measure => have := HK.out; omega
        case rel => exact ⟨k + 1, by have := HK.out; omega, by go_num, by rw [HT.out, HE.out]; simpa using HS.out⟩
      · have q2 : ((s[k].toNat : Int) == 92) = false := by simp; omega
        have HE := Lib.hid (escB_no s[k] h34 h92)
        clear h34 h92
        go_wp2_with fail
        ((with_reducible refine (writeByte_any w.heap.size w.heap.size _ (s[k]) _ HS.out.bld (by have := HL.out; simp; omega) HS.out.size).mono ?_); rintro e wn ⟨rfl, hB2, hl2, _⟩)
        replace HS := Lib.hid (HS.out.write hB2 hl2)
        clear hB2 hl2
        go_wp2_with fail
        go_roundg (gk - 1)
        case measure => have := HK.out; omega
        case rel => exact ⟨k + 1, by have := HK.out; omega, by go_num, by rw [HT.out, HE.out]; simpa using HS.out⟩
    · have HX := Lib.hid (show s.data.toList.take k = s.data.toList from List.take_of_length_le (by rw [len_byte]; omega))
      go_wp2_with fail
      ((with_reducible refine (writeByte_at 34 34 rfl w.heap.size w.heap.size _ _ HS.out.bld (by have := HL.out; simp; omega) HS.out.size).mono ?_); rintro e wn ⟨rfl, hB2, hl2, _⟩)
      replace HS := Lib.hid (HS.out.write hB2 hl2)
      clear hB2 hl2
      go_wp2_with fail
      ((with_reducible refine (bString_any w.heap.size w.heap.size _ _ HS.out.bld HS.out.size).mono ?_); rintro e wn ⟨rfl, hB2, hl2, _⟩)
      replace HS := Lib.hid (HS.out.write hB2 hl2)
      clear hB2 hl2
      go_wp2_with fail
      go_ret
      exact ⟨ret_str (by rw [HX.out]; rfl), HS.out.2⟩

set_option maxHeartbeats 800000 in
theorem nquote_ok (s : ByteArray) (w : World) (hs : s.size ≤ 16384) (hp : s.data.toList.all isPr = true) :
    Calls Tryz.prog 61 #[.string s] w fun e w' => e = .returned (.tuple #[.string ⟨(quoteL s.data.toList).toArray⟩, .int .i64 0]) ∧ Below w.heap.size w w' := by
  have HP := Lib.hid hp; clear hp
  go_enter Tryz.func61, Tryz.ntmps61
  go_wp2_with fail
  ((with_reducible refine (nprintable_any s _ (by omega)).mono ?_); rintro e wn ⟨rfl, rfl⟩)
  rw [HP.out]
  go_wp2_with fail
  ((with_reducible refine (nlit_any s _ (by omega)).mono ?_); rintro e wn ⟨rfl, hb⟩)
  go_wp2_with fail
  go_ret2
  exact ⟨rfl, hb⟩
end Go.Proofs.YtbbdgncjpbfooaaGreatDoor
