/- The reader of package token: how it goes on. -/
import Derived.Test.YtlocbindafdmhaaDoorKb
namespace Go.Proofs.YtlocbindafdmhaaDoor
open Go.RowKit

/-- block b holds a reader: what is left of the text, and the place -/
def RD (w : World) (b : Nat) (s : ByteArray) (p : Nat × Nat) : Prop := w.heap[b]? = some (.cells #[.string s, .int .i64 (p.1 : Int), .int .i64 (p.2 : Int)] 56 (0, 0))
theorem RD.lt {w : World} {b : Nat} {s : ByteArray} {p : Nat × Nat} (h : RD w b s p) : b < w.heap.size := by
  rcases Nat.lt_or_ge b w.heap.size with h2 | h2
  · exact h2
  · unfold RD at h; simp [Array.getElem?_eq_none h2] at h
theorem RD.cells {w : World} {b : Nat} {s : ByteArray} {p : Nat × Nat} (h : RD w b s p) :
    w.cell? ⟨b, 0, none⟩ = some (.string s) ∧ w.cell? ⟨b, 0 + 1, none⟩ = some (.int .i64 (p.1 : Int)) ∧ w.cell? ⟨b, 0 + 1 + 1, none⟩ = some (.int .i64 (p.2 : Int)) ∧
    w.frozen? ⟨b, 0, none⟩ = false ∧ w.frozen? ⟨b, 0 + 1, none⟩ = false ∧ w.frozen? ⟨b, 0 + 1 + 1, none⟩ = false := by
  unfold RD at h
  simp [World.cell?, World.frozen?, h]
theorem RD.set {w : World} {b : Nat} {s t : ByteArray} {p q : Nat × Nat} (h : RD w b s p) (i : Nat) (v : Value)
    (hv : (#[Value.string s, .int .i64 (p.1 : Int), .int .i64 (p.2 : Int)] : Array Value).setIfInBounds i v = #[.string t, .int .i64 (q.1 : Int), .int .i64 (q.2 : Int)]) : RD (w.setCell ⟨b, i, none⟩ v) b t q := by
  have hlt := h.lt
  unfold RD at h ⊢
  have h' : w.heap[b] = .cells #[.string s, .int .i64 (p.1 : Int), .int .i64 (p.2 : Int)] 56 (0, 0) := by simpa [Array.getElem?_eq_getElem hlt] using h
  show (w.heap.modify b _)[b]? = _
  rw [Array.getElem?_eq_getElem (by simpa using hlt), Array.getElem_modify_self, h', ← hv]
  rfl
theorem RD.kept {w w' : World} {b : Nat} {s : ByteArray} {p : Nat × Nat} (h : RD w b s p) (hb : Below w.heap.size w w') : RD w' b s p := by
  have hlt := h.lt
  unfold RD at h ⊢
  rw [hb.block b hlt]; exact h
theorem adv_nl (p : Nat × Nat) (c : UInt8) (h : (c.toNat : Int) = 10) : adv p c = (p.1 + 1, 1) := by unfold adv; rw [if_pos (by omega)]
theorem adv_no (p : Nat × Nat) (c : UInt8) (h : (c.toNat : Int) ≠ 10) : adv p c = (p.1, p.2 + 1) := by unfold adv; rw [if_neg (by omega)]

set_option maxHeartbeats 800000 in
theorem skip_any (b n : Nat) (s : ByteArray) (p : Nat × Nat) (w : World) (h : RD w b s p) (hn : n ≤ s.size) (hs : s.size ≤ 1099511627776) (h1 : p.1 ≤ 1099511627776) (h2 : p.2 ≤ 1099511627776) :
    Calls Tryd.prog 30 #[.pointer (some ⟨b, 0, none⟩), .int .i64 n] w fun e w' => e = .returned (.tuple #[]) ∧ RD w' b (s.extract n s.size) (advs p (s.data.toList.take n)) ∧ w.grownBy w' (some b) := by
  go_enter Tryd.func30, Tryd.ntmps30
  go_wp2
  go_loopw [6] (fun i wr => ∃ k : Nat, k ≤ n ∧ i = .int .i64 k ∧ RD wr b s (advs p (s.data.toList.take k)) ∧ w.grownBy wr (some b)) (fun i _ => n - (intOf i).toNat)
  case atStart => exact ⟨0, Nat.zero_le _, rfl, h, ⟨rfl, rfl, rfl, Nat.le_refl _, fun _ _ _ => rfl⟩⟩
  case round =>
    obtain ⟨k, hk, rfl, hR, hG⟩ := hrel
    have hle := advs_le p (s.data.toList.take k)
    have hll : (s.data.toList.take k).length ≤ k := List.length_take_le _ _
    have HT := Lib.hid (fun hlt : k < s.data.toList.length => advs_take p s.data.toList k hlt)
    generalize hQ : advs p (s.data.toList.take k) = q at hR hle HT ⊢
    have HQ := Lib.hid hQ; clear hQ
    obtain ⟨c0, c1, c2, f0, f1, f2⟩ := hR.cells
    by_cases hlt : k < n
    · have hlt' : k < s.size := by omega
      by_cases h10 : (s[k].toNat : Int) = 10
      · have hq : ((s[k].toNat : Int) == 10) = true := by simp [h10]
        have HA := Lib.hid (adv_nl q s[k] h10)
        clear h10
        go_wp2
        go_roundw
        case rel =>
          refine ⟨k + 1, by omega, by go_num, ?_, Lib.grownBy_setB (Lib.grownBy_setB (Lib.grownBy_setB hG _ _) _ _) _ _⟩
          rw [HT.out (by simpa using hlt'), get_byte s k hlt', HA.out]
          exact ((hR.set (q := (q.1, q.2 + 1)) _ _ (by rfl)).set (q := (q.1 + 1, q.2 + 1)) _ _ (by rfl)).set _ _ (by rfl)
        case measure => simp [intOf]; omega
      · have hq : ((s[k].toNat : Int) == 10) = false := by simp [h10]
        have HA := Lib.hid (adv_no q s[k] h10)
        clear h10
        go_wp2
        go_roundw
        case rel =>
          refine ⟨k + 1, by omega, by go_num, ?_, Lib.grownBy_setB hG _ _⟩
          rw [HT.out (by simpa using hlt'), get_byte s k hlt', HA.out]
          exact hR.set _ _ (by rfl)
        case measure => simp [intOf]; omega
    · obtain rfl : n = k := by omega
      go_wp2
      go_end0
      rw [HQ.out]
      exact ⟨rfl, hR.set _ _ (by rfl), Lib.grownBy_setB hG _ _⟩
end Go.Proofs.YtlocbindafdmhaaDoor
