/- Atoi and Cut of the library, as Parse uses them: what a call returns. -/
import Derived.Test.YtbdihcpehadbjaaDoorTc
import Derived.Test.YtbdihcpehadbjaaDoorShelfT
namespace Go.Proofs.YtbdihcpehadbjaaDoor
open Go.RowKit

/-- what the library's variables hold -/
def PW (w : World) : Prop := Tb w ∧ (∃ m, w.cell? ⟨0, 0, none⟩ = some (.int .i64 m)) ∧ (∃ tp p, w.var? Tryd.prog "strconv.ErrSyntax" = some #[.iface tp p]) ∧ (∃ tp p, w.var? Tryd.prog "strconv.ErrRange" = some #[.iface tp p])
theorem gSyn : Tryd.prog.globalNamed "strconv.ErrSyntax" = some 1 := by kernel_rfl
theorem gRan : Tryd.prog.globalNamed "strconv.ErrRange" = some 2 := by kernel_rfl
theorem var_lt {w : World} {n : String} {g : Nat} {cs : Array Value} (hg : Tryd.prog.globalNamed n = some g) (h : w.var? Tryd.prog n = some cs) : g < w.heap.size := by
  unfold World.var? at h
  rw [hg] at h
  rcases Nat.lt_or_ge g w.heap.size with h2 | h2
  · exact h2
  · simp [Array.getElem?_eq_none h2] at h
theorem PW.below {w w' : World} (h : PW w) (hb : Below w.heap.size w w') : PW w' := by
  obtain ⟨h1, ⟨m, h2⟩, ⟨tp, p, h3⟩, ⟨tq, q, h4⟩⟩ := h
  refine ⟨h1.below hb, ⟨m, ?_⟩, ⟨tp, p, var?_below hb gSyn (var_lt gSyn h3) h3⟩, ⟨tq, q, var?_below hb gRan (var_lt gRan h4) h4⟩⟩
  rw [hb.cell (p := ⟨0, 0, none⟩) (World.block_lt_of_cell? w _ h2)]; exact h2
theorem PW.tb {w : World} (h : PW w) : Tb w := h.1

theorem cut_any (s : ByteArray) (w : World) (hs : s.size < 4294967281) (hp : PW w) (a b : List UInt8) (c : Bool) (hc : Lib.cut s.data.toList [47] = (a, b, c)) :
    Calls Tryd.prog 45 #[.string s, .string ⟨#[47]⟩] w fun e w' => e = .returned (.tuple #[.string ⟨a.toArray⟩, .string ⟨b.toArray⟩, .bool c]) ∧ Below w.heap.size w w' := by
  obtain ⟨_, ⟨m, hm⟩, _⟩ := hp
  refine (Tryd.strings_Cut s ⟨#[47]⟩ m w hs hm).mono fun e w' ⟨h1, n, h2⟩ => ⟨?_, by rw [h2]; exact below_drewN (Below.refl _ _) n⟩
  rw [h1]
  have e : (⟨#[47]⟩ : ByteArray).data.toList = [47] := rfl
  rw [e, hc]
theorem atoi_good (s : ByteArray) (v : Int) (w : World) (hs : s.size ≤ 281474976710656) (h : Lib.atoiAll s.data.toList = .ok v) :
    Calls Tryd.prog 46 #[.string s] w fun e w' => e = .returned (.tuple #[.int .i64 v, .nilIface]) ∧ Below w.heap.size w w' := by
  refine (Tryd.strconv_Atoi_ok s (by omega) v h w).mono fun e w' ⟨h1, h2⟩ => ⟨h1, ?_⟩
  rcases h2 with rfl | ⟨t, rfl⟩
  · exact Below.refl _ _
  · exact Lib.bytesWorld_below w _ _
theorem atoi_bad (s : ByteArray) (w : World) (hs : s.size ≤ 281474976710656) (hp : PW w) (h : ∀ v, Lib.atoiAll s.data.toList ≠ .ok v) :
    Calls Tryd.prog 46 #[.string s] w fun e w' => ∃ (n : Int) (N : Nat), e = .returned (.tuple #[.int .i64 n, .iface 80 (.pointer (some ⟨N, 0, none⟩))]) ∧ Below w.heap.size w w' := by
  obtain ⟨_, _, ⟨tp, p, h3⟩, ⟨tq, q, h4⟩⟩ := hp
  cases hA : Lib.atoiAll s.data.toList
  · rename_i v; exact absurd hA (h v)
  · exact (Any.strconv_Atoi_syntax_var Tryd.laysC172 s hs hA tp p w h3).mono fun e w' ⟨N, h1, _, _, h2⟩ => ⟨0, N, h1, h2⟩
  · exact (Any.strconv_Atoi_range_var Tryd.laysC172 s hs hA tq q w h4).mono fun e w' ⟨N, h1, _, _, h2⟩ => ⟨_, N, h1, h2⟩
end Go.Proofs.YtbdihcpehadbjaaDoor
