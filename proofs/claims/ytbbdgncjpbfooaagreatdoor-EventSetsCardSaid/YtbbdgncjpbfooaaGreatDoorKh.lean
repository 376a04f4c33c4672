/- The reader of package name: more, next, and the rest of a literal. -/
import Derived.Test.YtbbdgncjpbfooaaGreatDoorKd
import Derived.Test.YtbbdgncjpbfooaaGreatDoorKg
import Derived.Test.YtbbdgncjpbfooaaGreatDoorShelfK
import Derived.IntWalk
namespace Go.Proofs.YtbbdgncjpbfooaaGreatDoor
open Go.RowKit

/-- block b holds a reader of package name -/
def NR (w : World) (b : Nat) (s : ByteArray) (i : Nat) : Prop := w.heap[b]? = some (.cells #[.string s, .int .i64 (i : Int)] 100 (0, 0))
theorem NR.lt {w : World} {b : Nat} {s : ByteArray} {i : Nat} (h : NR w b s i) : b < w.heap.size := by
  rcases Nat.lt_or_ge b w.heap.size with h2 | h2
  · exact h2
  · unfold NR at h; simp [Array.getElem?_eq_none h2] at h
theorem NR.cells {w : World} {b : Nat} {s : ByteArray} {i : Nat} (h : NR w b s i) :
    w.cell? ⟨b, 0, none⟩ = some (.string s) ∧ w.cell? ⟨b, 0 + 1, none⟩ = some (.int .i64 (i : Int)) ∧ w.frozen? ⟨b, 0, none⟩ = false ∧ w.frozen? ⟨b, 0 + 1, none⟩ = false := by
  unfold NR at h
  simp [World.cell?, World.frozen?, h]
theorem NR.set {w : World} {b : Nat} {s : ByteArray} {i : Nat} (h : NR w b s i) (j : Nat) : NR (w.setCell ⟨b, 0 + 1, none⟩ (.int .i64 (j : Int))) b s j := by
  have hlt := h.lt
  unfold NR at h ⊢
  have h' : w.heap[b] = .cells #[.string s, .int .i64 (i : Int)] 100 (0, 0) := by simpa [Array.getElem?_eq_getElem hlt] using h
  show (w.heap.modify b _)[b]? = _
  rw [Array.getElem?_eq_getElem (by simpa using hlt), Array.getElem_modify_self, h']
  rfl
theorem NR.below {w w' : World} {b B : Nat} {s : ByteArray} {i : Nat} (h : NR w b s i) (hb : Below B w w') (hB : b < B) : NR w' b s i := by
  unfold NR at h ⊢
  rw [hb.block b hB]; exact h
theorem grown_refl (w : World) (r : Option Nat) : w.grownBy w r := ⟨rfl, rfl, rfl, Nat.le_refl _, fun _ _ _ => rfl⟩
theorem grown_drewN {a w : World} {r : Option Nat} (h : a.grownBy w r) (n : Nat) : a.grownBy (w.drewN n) r := ⟨h.os, h.tape, h.output, h.size, h.block⟩
theorem grown_below {a w w' : World} {r : Option Nat} {B : Nat} (h : a.grownBy w r) (hb : Below B w w') (hB : a.heap.size ≤ B) : a.grownBy w' r :=
  ⟨hb.os.trans h.os, hb.tape.trans h.tape, hb.output.trans h.output, Nat.le_trans h.size hb.size, fun k hk hr => (hb.block k (by omega)).trans (h.block k hk hr)⟩
theorem Bld.grown {B b2 b : Nat} {l : List UInt8} {w w' : World} (h : Bld B b2 l w) (hg : w.grownBy w' (some b)) (hb : b < B) : Bld B b2 l w' := by
  unfold Bld at h ⊢
  have key : ∀ p, Lib.BuilderAtF 122 5 B b2 p (Lib.byteCells l) w → Lib.BuilderAtF 122 5 B b2 p (Lib.byteCells l) w' := by
    intro p hp
    have hlt := hp.lt
    obtain ⟨hB, v, hv, hown, hne⟩ := hp
    refine ⟨hB, v, ?_, ?_, hne⟩
    · rw [hg.block b2 hlt (by intro e; cases e; omega)]; exact hv
    · obtain ⟨h1, h2⟩ := hown
      refine ⟨h1, ?_⟩
      rcases h2 with h2 | ⟨g, cap, cur, fz, hv2, hg2, hh, r⟩
      · exact .inl h2
      · have hglt : g < w.heap.size := by
          rcases Nat.lt_or_ge g w.heap.size with h3 | h3
          · exact h3
          · simp [Array.getElem?_eq_none h3] at hh
        exact .inr ⟨g, cap, cur, fz, hv2, hg2, by rw [hg.block g hglt (by intro e; cases e; omega)]; exact hh, r⟩
  rcases h with h | h
  · exact .inl (key _ h)
  · exact .inr (key _ h)

set_option maxHeartbeats 400000 in
theorem more_yes (b : Nat) (s : ByteArray) (i : Nat) (w : World) (h : NR w b s i) (hi : i < s.size) :
    Calls Tryz.prog 72 #[.pointer (some ⟨b, 0, none⟩)] w fun e w' => e = .returned (.bool true) ∧ NR w' b s i ∧ w.grownBy w' (some b) := by
  obtain ⟨c0, c1, f0, f1⟩ := h.cells
  have hd : decide (i < s.size) = true := by simp; omega
  go_enter Tryz.func72, Tryz.ntmps72
  go_wp2_with fail
  go_quiet (fail)
  go_wp2_with fail
  go_ret
  exact ⟨rfl, h, grown_drewN (grown_refl _ _) _⟩
set_option maxHeartbeats 400000 in
theorem more_no (b : Nat) (s : ByteArray) (i : Nat) (w : World) (h : NR w b s i) (hi : s.size ≤ i) :
    Calls Tryz.prog 72 #[.pointer (some ⟨b, 0, none⟩)] w fun e w' => e = .returned (.bool false) ∧ NR w' b s i ∧ w.grownBy w' (some b) := by
  obtain ⟨c0, c1, f0, f1⟩ := h.cells
  have hd : decide (i < s.size) = false := by simp; omega
  go_enter Tryz.func72, Tryz.ntmps72
  go_wp2_with fail
  go_quiet (fail)
  go_wp2_with fail
  go_ret
  exact ⟨rfl, h, grown_drewN (grown_refl _ _) _⟩
set_option maxHeartbeats 400000 in
theorem rnext_any (b : Nat) (s : ByteArray) (i : Nat) (w : World) (h : NR w b s i) (hi : i < s.size) (hs : s.size ≤ 1099511627776) :
    Calls Tryz.prog 74 #[.pointer (some ⟨b, 0, none⟩)] w fun e w' => e = .returned (.int .u8 (s[i].toNat : Int)) ∧ NR w' b s (i + 1) ∧ w.grownBy w' (some b) := by
  obtain ⟨c0, c1, f0, f1⟩ := h.cells
  have h2 : NR (w.setCell ⟨b, 1, none⟩ (.int .i64 ((i : Int) + 1))) b s (i + 1) := h.set (i + 1)
  have hg : w.grownBy (w.setCell ⟨b, 1, none⟩ (.int .i64 ((i : Int) + 1))) (some b) := Lib.grownBy_setB (grown_refl w (some b)) 1 _
  have H2 := Lib.hid h2; have HG := Lib.hid hg; clear h2 hg
  go_enter Tryz.func74, Tryz.ntmps74
  go_wp2_with fail
  generalize w.setCell ⟨b, 1, none⟩ (.int .i64 ((i : Int) + 1)) = w2 at H2 HG ⊢
  clear c0 c1 f0 f1
  obtain ⟨c0, c1, f0, f1⟩ := H2.out.cells
  have hw : IntKind.i64.wrap ((i : Int) + 1 - 1) = (i : Int) := by rw [IntWalk.i64_in _ (by omega)]; omega
  have hlt : (i : Int) < (s.size : Int) := by omega
  go_quiet (fail)
  go_wp2_with fail
  go_ret
  exact ⟨rfl, H2.out, grown_drewN HG.out _⟩
end Go.Proofs.YtbbdgncjpbfooaaGreatDoor
