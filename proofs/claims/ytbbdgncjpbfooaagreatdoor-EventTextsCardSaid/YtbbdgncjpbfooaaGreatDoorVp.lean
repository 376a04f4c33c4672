/- EventTexts: what a call returns. -/
import Derived.Test.YtbbdgncjpbfooaaGreatDoorVo
import Derived.Test.YtbbdgncjpbfooaaGreatDoorVd
import Derived.Test.YtbbdgncjpbfooaaGreatDoorVe
import Derived.Test.YtbbdgncjpbfooaaGreatDoorVc
import Derived.Test.YtbbdgncjpbfooaaGreatDoorEu
namespace Go.Proofs.YtbbdgncjpbfooaaGreatDoor
open Go.RowKit

/-- while EventTexts runs: the event's block, its fields, what the library needs -/
def TxS (w wr : World) (e : Ev) (A : Option Addr) (n c : Nat) : Prop := EB wr w.heap.size e A n c ∧ FdIn wr A e.d ∧ PW wr ∧ Below w.heap.size w wr
theorem TxS.eb {w wr : World} {e : Ev} {A : Option Addr} {n c : Nat} (h : TxS w wr e A n c) : EB wr w.heap.size e A n c := h.1
theorem TxS.fd {w wr : World} {e : Ev} {A : Option Addr} {n c : Nat} (h : TxS w wr e A n c) : FdIn wr A e.d := h.2.1
theorem TxS.pw {w wr : World} {e : Ev} {A : Option Addr} {n c : Nat} (h : TxS w wr e A n c) : PW wr := h.2.2.1
theorem TxS.bel {w wr : World} {e : Ev} {A : Option Addr} {n c : Nat} (h : TxS w wr e A n c) : Below w.heap.size w wr := h.2.2.2
theorem TxS.below {w wr w' : World} {e : Ev} {A : Option Addr} {n c : Nat} (h : TxS w wr e A n c) (hb : Below wr.heap.size wr w') : TxS w w' e A n c :=
  ⟨h.1.below hb, h.2.1.below hb, h.2.2.1.below hb, below_then h.2.2.2 hb⟩
theorem TxS.new (w : World) (e : Ev) (A : Option Addr) (n c : Nat) (hP : PW w) (h : FdIn w A e.d) : TxS w (w.alloc (.cells #[.string e.c, .string e.a, .string e.r, .int .i64 e.life, .int .i64 e.time, .slice A n c] 24)) e A n c :=
  ⟨EB.new w e A n c, h.below (below_alloc w _), hP.below (below_alloc w _), below_alloc w _⟩
/-- an event in a block, with its fields -/
def EvB (wr : World) (b : Nat) (e : Ev) (A : Option Addr) (c : Nat) : Prop := EB wr b e A e.d.length c ∧ FdIn wr A e.d
theorem EvB.below {wr w' : World} {b : Nat} {e : Ev} {A : Option Addr} {c : Nat} (h : EvB wr b e A c) (hb : Below wr.heap.size wr w') : EvB w' b e A c := ⟨h.1.below hb, h.2.below hb⟩
theorem EvB.fd {wr : World} {b : Nat} {e : Ev} {A : Option Addr} {c : Nat} (h : EvB wr b e A c) : FdIn wr A e.d := h.2
theorem EvB.new (w : World) (e : Ev) (A : Option Addr) (c : Nat) (h : FdIn w A e.d) : EvB (w.alloc (.cells #[.string e.c, .string e.a, .string e.r, .int .i64 e.life, .int .i64 e.time, .slice A e.d.length c] 24)) w.heap.size e A c :=
  ⟨EB.new w e A _ c, h.below (below_alloc w _)⟩
theorem evR_short {s : List UInt8} (hs : s.length ≤ 16384) : (∃ x, evR s = .ok x ∧ x.ok = true ∧ x.tx = s) ∨ evR s = .error 3 := by
  cases h : evP s with
  | none => exact .inr (evR_none hs h)
  | some x => exact .inl ⟨x, evR_some hs h, (evP_some s x h).1, (evP_some s x h).2⟩
theorem evR_back {e : Ev} (h : e.ok = true) : evR e.tx = .ok e := evR_some (ws_ok e h).2.2.2.2 (evP_tx e h)
theorem ok_fit (e : Ev) (h : e.ok = true) : e.fit 9223372036854775000 ∧ e.d.length ≤ 8 := by
  have hl := (ws_ok e h).2.1
  refine ⟨⟨?_, ?_, ?_, fun f hf => ?_⟩, (ev_head e h).2.2.2.2⟩
  · have := hl e.c.data.toList (by unfold Ev.ws; simp); rw [len_byte] at this; omega
  · have := hl e.a.data.toList (by unfold Ev.ws; simp); rw [len_byte] at this; omega
  · have := hl e.r.data.toList (by unfold Ev.ws; simp); rw [len_byte] at this; omega
  · have h1 := hl f.tx (by unfold Ev.ws; simp; exact .inr (.inr (.inr (.inr (.inr ⟨f, hf, rfl⟩)))))
    have h2 := val_small f.v (ev_names e h f hf).2
    have h3 : f.nm.data.toList.length ≤ f.tx.length := by unfold Fd.tx; simp
    rw [len_byte] at h3
    omega
theorem ev0_no : ev0.ok = false := by decide
theorem fdin_nil (w : World) (A : Option Addr) : FdIn w A ev0.d := fun i hi => by simp [ev0] at hi
end Go.Proofs.YtbbdgncjpbfooaaGreatDoor
