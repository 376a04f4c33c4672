/- The builder that lies in verdict's writer: what its methods do. -/
import Derived.Test.YtkhmngljpfibcaaGreatDoorPUu
import Derived.Test.YtkhmngljpfibcaaGreatDoorPDf
import Derived.Lib.UnsafeStr
namespace Go.Proofs.YtkhmngljpfibcaaGreatDoor
set_option maxRecDepth 100000
set_option maxHeartbeats 2000000
open Go.Lib (hid)
open Go.RowKit

theorem wrLies : liesAt Tryz.prog Tryz.prog.depth 149 (3 / Tryz.prog.cellsOf 149) 0 147 1 = true := by kernel_rfl
theorem cellsByte : Tryz.prog.cellsOf 5 = 1 := by kernel_rfl
def WrA (B b : Nat) (p : Value) (bs : List Value) (bad : Bool) (w : World) : Prop :=
 B ≤ b ∧ ∃ v, w.heap[b]? = some (.cells #[p, v, .bool bad] 149 (0, 0)) ∧ w.ownsRowF B 5 1 v bs.length bs ∧ v.ownBlock ≠ some b
def Wr (B b : Nat) (l : List UInt8) (bad : Bool) (w : World) : Prop := ∃ p, (p = .pointer none ∨ p = .pointer (some ⟨b, 0, none⟩)) ∧ WrA B b p (Lib.byteCells l) bad w
theorem WrA.lt {B b : Nat} {p : Value} {bs : List Value} {bad : Bool} {w : World} (h : WrA B b p bs bad w) : b < w.heap.size := by
 obtain ⟨_, v, hb, _⟩ := h;exact (Array.getElem?_eq_some_iff.1 hb).1
theorem WrA.below {B b : Nat} {p : Value} {bs : List Value} {bad : Bool} {w w' : World} (h : WrA B b p bs bad w) (hb : Below w.heap.size w w') : WrA B b p bs bad w' := by
 have hlt := h.lt;obtain ⟨h0, v, h1, h2, h3⟩ := h;exact ⟨h0, v, by rw [hb.block b hlt]; exact h1, h2.kept (row := none) ⟨hb.os, hb.tape, hb.output, hb.size, fun k hk _ => hb.block k hk⟩ (by cases hv : v.ownBlock <;> simp), h3⟩
theorem Wr.below {B b : Nat} {l : List UInt8} {bad : Bool} {w w' : World} (h : Wr B b l bad w) (hb : Below w.heap.size w w') : Wr B b l bad w' := by
 obtain ⟨p, hp, h1⟩ := h;exact ⟨p, hp, h1.below hb⟩
theorem Wr.lt {B b : Nat} {l : List UInt8} {bad : Bool} {w : World} (h : Wr B b l bad w) : b < w.heap.size := by
 obtain ⟨p, _, h1⟩ := h;exact h1.lt
theorem Wr.bad {B b : Nat} {l : List UInt8} {bad : Bool} {w : World} (h : Wr B b l bad w) : w.cell? ⟨b, 2, none⟩ = some (.bool bad) ∧ w.frozen? ⟨b, 2, none⟩ = false := by
 obtain ⟨p, _, _, v, h1, _⟩ := h;exact ⟨by rw [Lib.cell_of_heap h1]; rfl, Lib.frozen_of_heap h1 2⟩
theorem Wr.mark {B b : Nat} {l : List UInt8} {bad : Bool} {w : World} (h : Wr B b l bad w) (x : Bool) : Wr B b l x (w.setCell ⟨b, 2, none⟩ (.bool x)) := by
 obtain ⟨p, hp, h0, v, h1, h2, h3⟩ := h;refine ⟨p, hp, h0, v, ?_, ?_, h3⟩
 · simp [World.setCell, Array.getElem?_modify, h1]
 · exact h2.kept (row := some b) ⟨rfl, rfl, rfl, by simp [World.setCell], fun k _ hk => Below.heap_setCell _ _ _ _ (fun e => hk (by simp [e]))⟩ (Or.inr h3)
theorem WrA.put {B b : Nat} {p v v' : Value} {bs' : List Value} {bad : Bool} {w : World} (hB : B ≤ b) (hb : w.heap[b]? = some (.cells #[p, v, .bool bad] 149 (0, 0))) (hown : w.ownsRowF B 5 1 v' bs'.length bs') : WrA B b p bs' bad (w.setCell ⟨b, 1, none⟩ v') := by
 have hne := Lib.ownBlock_neF hown hb (by decide);refine ⟨hB, v', ?_, ?_, hne⟩
 · simp [World.setCell, Array.getElem?_modify, hb]
 · exact hown.kept (row := some b) ⟨rfl, rfl, rfl, by simp [World.setCell], fun k _ hk => Below.heap_setCell _ _ _ _ (fun e => hk (by simp [e]))⟩ (Or.inr hne)
theorem Wr.new (w : World) : Wr w.heap.size w.heap.size [] false (w.alloc (.cells #[.pointer none, .slice none 0 0, .bool false] 149)) :=
 ⟨_, .inl rfl, Nat.le_refl _, .slice none 0 0, heap_alloc_new w _, World.ownsRowF_nil _ _ _ _, by simp [Value.ownBlock]⟩
theorem wcopy_fresh (b : Nat) (w : World) (h0 : w.cell? ⟨b, 0, none⟩ = some (.pointer none)) (hsh : w.shape? b = some (149, 3)) (hfz : w.frozen? ⟨b, 0, none⟩ = false) :
 Calls Tryz.prog 219 #[.pointer (some ⟨b, 0, none⟩)] w fun e w' => e = .returned (.tuple #[]) ∧ w' = w.setCell ⟨b, 0, none⟩ (.pointer (some ⟨b, 0, none⟩)) := by
 obtain ⟨j, hj, hjs⟩ := Option.map_eq_some_iff.1 bldInfo;have h1 := hid (Lib.run_to_unsafe w ⟨b, 0, none⟩ Tryz.underlying144 Tryz.underlying224 hj (by rw [hjs]; decide) hsh (Nat.zero_lt_succ 2));have h2 := hid (Lib.run_from_unsafe w ⟨b, 0, none⟩ Tryz.underlying224 Tryz.underlying144 hj hsh wrLies);clear hj hjs;go_enter Tryz.func219, Tryz.ntmps219
 go_wp2
 rw [h1.out];simp only [Result.andThen];rw [Oper.upon_value]
 go_wp2
 rw [run_callFunc_extern Tryz.func235 (by kernel_rfl) (by kernel_rfl) (by kernel_rfl) (e := Extern.AbiNoEscape.same) (by kernel_rfl)];rw [Lib.run_noEscape];simp only [Result.andThen];rw [Oper.upon_value]
 go_wp2
 rw [h2.out];simp only [Result.andThen];rw [Oper.upon_value]
 go_wp2
 go_end0
 exact ⟨rfl, rfl⟩
theorem wcopy_any (B b : Nat) (bs : List Value) (bad : Bool) (p : Value) (hp : p = .pointer none ∨ p = .pointer (some ⟨b, 0, none⟩)) (w : World) (h : WrA B b p bs bad w) :
 Calls Tryz.prog 219 #[.pointer (some ⟨b, 0, none⟩)] w fun e w' => e = .returned (.tuple #[]) ∧ (WrA B b (.pointer (some ⟨b, 0, none⟩)) bs bad w' ∧ Below B w w' ∧ Lib.OthersKept 5 (some b) w w') := by
 obtain ⟨h0, v, h1, h2, h3⟩ := h;rcases hp with rfl | rfl
 · refine (wcopy_fresh b w (by rw [Lib.cell_of_heap h1]; rfl) (by simp [World.shape?, h1]) (Lib.frozen_of_heap h1 0)).mono ?_;rintro e w' ⟨rfl, rfl⟩;refine ⟨rfl, ⟨h0, v, ?_, ?_, h3⟩, (Below.refl B w).setCell (p := ⟨b, 0, none⟩) h0 _, (Lib.OthersKept.refl _ _ w).setCell ⟨b, 0, none⟩ rfl _⟩
   · simp [World.setCell, Array.getElem?_modify, h1]
   · exact h2.kept (row := some b) ⟨rfl, rfl, rfl, by simp [World.setCell], fun k _ hk => Below.heap_setCell _ _ _ _ (fun e => hk (by simp [e]))⟩ (Or.inr h3)
 · refine (copyCheck_used b w (by rw [Lib.cell_of_heap h1]; rfl)).mono ?_;rintro e w' ⟨rfl, rfl⟩;exact ⟨rfl, ⟨h0, v, h1, h2, h3⟩, Below.refl B _, Lib.OthersKept.refl _ _ _⟩
theorem wString_any (B b : Nat) (l : List UInt8) (bad : Bool) (s : ByteArray) (w : World) (h : Wr B b l bad w) (hlen : l.length + s.size ≤ 140737488355328) (hBw : B ≤ w.heap.size) :
 Calls Tryz.prog 177 #[.pointer (some ⟨b, 0, none⟩), .string s] w fun e w' => e = .returned (.tuple #[.int .i64 s.size, .nilIface]) ∧ (Wr B b (l ++ s.data.toList) bad w' ∧ Below B w w' ∧ Lib.OthersKept 5 (some b) w w') := by
 obtain ⟨i0, hi, hz0, hz1, hz2⟩ := info_parts byteInfo;have hll : (Lib.byteCells l).length = l.length := Lib.byteCells_length l;have HL := hid hll; clear hll;have HC := hid (show Lib.byteCells (l ++ s.data.toList) = Lib.byteCells l ++ Lib.strCells s by simp [Lib.byteCells, Lib.strCells]);obtain ⟨p, hp, hA⟩ := h;unfold Wr;generalize Lib.byteCells l = bs at *;go_enter Tryz.func177, Tryz.ntmps177;go_wp2_with (go_at_call 219; refine (wcopy_any B b bs bad p hp _ hA).mono ?_);rintro e w1 ⟨rfl, h1, hb1, hk1⟩;obtain ⟨hB, v, hbk, hown, hne⟩ := h1;have c0 : w1.cell? ⟨b, 0, none⟩ = some (.pointer (some ⟨b, 0, none⟩)) := by rw [Lib.cell_of_heap hbk]; rfl
 have c1 : w1.cell? ⟨b, 0 + 1, none⟩ = some v := by rw [Lib.cell_of_heap hbk]; rfl
 go_wp2_with (at_builtin; refine Lib.wpList_append_own_stringF _ rfl _ _ 145 9 rfl B 5 i0 Tryz.underlying145 Tryz.underlying9 hi hz0 hz1 hz2 _ _ _ rfl hown s rfl ?c3 ?c4 ?c5 ?_);case c3 => unfold maxLen; rw [HL.out]; omega
 case c4 => rw [HL.out]; omega
 case c5 => have := hb1.size; omega
 intro v' w2 hown' hgrow _;have hlt : b < w1.heap.size := (Array.getElem?_eq_some_iff.1 hbk).1;have hb2 : w2.heap[b]? = some (.cells #[.pointer (some ⟨b, 0, none⟩), v, .bool bad] 149 (0, 0)) := by
  rw [hgrow.block b hlt (fun e => hne e.symm)];exact hbk
 have d0 : w2.cell? ⟨b, 0, none⟩ = some (.pointer (some ⟨b, 0, none⟩)) := by rw [Lib.cell_of_heap hb2]; rfl
 have d1 : w2.cell? ⟨b, 0 + 1, none⟩ = some v := by rw [Lib.cell_of_heap hb2]; rfl
 have f1 : w2.frozen? ⟨b, 0 + 1, none⟩ = false := Lib.frozen_of_heap hb2 1;obtain ⟨ao, n', cap, rfl⟩ : ∃ ao n' cap, v' = .slice ao n' cap := by
  rcases hown'.2 with ⟨hv, _⟩ | ⟨g, cap, cur, fz, hv, _⟩
  · exact ⟨_, _, _, hv⟩
  · exact ⟨_, _, _, hv⟩
 go_wp2
 go_ret2;refine ⟨rfl, ⟨_, .inr rfl, ?_⟩, ?_, (hk1.grown hgrow (Lib.ownsRowF_kind hown)).setCell ⟨b, 1, none⟩ rfl _⟩
 · rw [HC.out]; exact WrA.put hB hb2 (bs' := bs ++ Lib.strCells s) (by simpa [Lib.strCells_length] using hown')
 · exact (hb1.grown hgrow (by have := hb1.size; omega) (fun k hk => (hown.lt k hk).1)).setCell (p := ⟨b, 1, none⟩) hB _
theorem wByte_any (B b : Nat) (l : List UInt8) (bad : Bool) (c : UInt8) (w : World) (h : Wr B b l bad w) (hlen : l.length + 1 ≤ 140737488355328) (hBw : B ≤ w.heap.size) :
 Calls Tryz.prog 179 #[.pointer (some ⟨b, 0, none⟩), .int .u8 (c.toNat : Int)] w fun e w' => e = .returned .nilIface ∧ (Wr B b (l ++ [c]) bad w' ∧ Below B w w' ∧ Lib.OthersKept 5 (some b) w w') := by
 obtain ⟨i0, hi, hz0, hz1, hz2⟩ := info_parts byteInfo;have hll : (Lib.byteCells l).length = l.length := Lib.byteCells_length l;have HL := hid hll; clear hll;have HC := hid (show Lib.byteCells (l ++ [c]) = Lib.byteCells l ++ [.int .u8 (c.toNat : Int)] by simp [Lib.byteCells]);obtain ⟨p, hp, hA⟩ := h;unfold Wr;generalize Lib.byteCells l = bs at *;go_enter Tryz.func179, Tryz.ntmps179;go_wp2_with (go_at_call 219; refine (wcopy_any B b bs bad p hp _ hA).mono ?_);rintro e w1 ⟨rfl, h1, hb1, hk1⟩;obtain ⟨hB, v, hbk, hown, hne⟩ := h1;have c0 : w1.cell? ⟨b, 0, none⟩ = some (.pointer (some ⟨b, 0, none⟩)) := by rw [Lib.cell_of_heap hbk]; rfl
 have c1 : w1.cell? ⟨b, 0 + 1, none⟩ = some v := by rw [Lib.cell_of_heap hbk]; rfl
 go_wp2_with (at_builtin; refine wpList_append_ownF _ rfl _ _ 145 rfl B 5 i0 (.int .u8 0) 1 1 Tryz.underlying145 hi hz0 hz1 hz2 rfl (by decide) _ _ _ rfl (hown.alloc _) ⟨w1.heap.size, 0, none⟩ 1 1 [.int .u8 (c.toNat : Int)] rfl rfl ?c1 ?c2 ?c3 ?c4 ?c5 ?_);case c1 =>
  intro j u hj
  match j, hj with
  | 0, hj => simp at hj; subst hj; simp [Addr.add]
 case c2 => intro u hu; simp at hu; subst hu; rfl
 case c3 => unfold maxLen; rw [HL.out]; omega
 case c4 => rw [HL.out]; omega
 case c5 => have := hb1.size; simp; omega
 intro v' w2 hown' hgrow _;have hlt : b < w1.heap.size := (Array.getElem?_eq_some_iff.1 hbk).1;have hb2 : w2.heap[b]? = some (.cells #[.pointer (some ⟨b, 0, none⟩), v, .bool bad] 149 (0, 0)) := by
  rw [hgrow.block b (by simp; omega) (fun e => hne e.symm), Lib.alloc_old w1 _ b hlt];exact hbk
 have d0 : w2.cell? ⟨b, 0, none⟩ = some (.pointer (some ⟨b, 0, none⟩)) := by rw [Lib.cell_of_heap hb2]; rfl
 have d1 : w2.cell? ⟨b, 0 + 1, none⟩ = some v := by rw [Lib.cell_of_heap hb2]; rfl
 have f1 : w2.frozen? ⟨b, 0 + 1, none⟩ = false := Lib.frozen_of_heap hb2 1;obtain ⟨g, cap, rfl⟩ : ∃ g cap, v' = .slice (some ⟨g, 0, none⟩) (bs.length + 1) cap := by
  rcases hown'.2 with ⟨_, h0⟩ | ⟨g, cap, cur, fz, hv, _⟩
  · omega
  · exact ⟨g, cap, hv⟩
 go_wp2
 go_ret;refine ⟨rfl, ⟨_, .inr rfl, ?_⟩, ?_, ((hk1.alloc _).grown hgrow (Lib.ownsRowF_kind (hown.alloc _))).setCell ⟨b, 1, none⟩ rfl _⟩
 · rw [HC.out]; exact WrA.put hB hb2 (bs' := bs ++ [.int .u8 (c.toNat : Int)]) (by simpa using hown')
 · exact ((hb1.alloc (by have := hb1.size; omega) _).grown hgrow (by have := hb1.size; simp; omega) (fun k hk => (hown.lt k hk).1)).setCell (p := ⟨b, 1, none⟩) hB _
theorem wLen_any (B b : Nat) (l : List UInt8) (bad : Bool) (w : World) (h : Wr B b l bad w) :
 Calls Tryz.prog 112 #[.pointer (some ⟨b, 0, none⟩)] w fun e w' => e = .returned (.int .i64 (l.length : Int)) ∧ w' = w := by
 obtain ⟨p, hp, h0, v, h1, h2, h3⟩ := h;have c1 : w.cell? ⟨b, 0 + 1, none⟩ = some v := by rw [Lib.cell_of_heap h1]; rfl
 have hl : (Lib.byteCells l).length = l.length := Lib.byteCells_length l;rw [hl] at h2;obtain ⟨ao, cap, rfl⟩ : ∃ ao cap, v = .slice ao l.length cap := by
  rcases h2.2 with ⟨hv, hz⟩ | ⟨g, cap, cur, fz, hv, _⟩
  · exact ⟨none, 0, by rw [hv, hz]⟩
  · exact ⟨_, _, hv⟩
 clear h1 h2 h3 hl hp;go_enter Tryz.func112, Tryz.ntmps112
 go_wp2
 go_ret;exact ⟨rfl, rfl⟩
theorem wText_any (B b : Nat) (l : List UInt8) (bad : Bool) (w : World) (h : Wr B b l bad w) (h0 : l ≠ []) :
 Calls Tryz.prog 113 #[.pointer (some ⟨b, 0, none⟩)] w fun e w' => e = .returned (.string ⟨l.toArray⟩) ∧ Below B w w' := by
 obtain ⟨p, hp, hB, v, hbk, hown, hne⟩ := h;have hl0 : l.length ≠ 0 := by simpa using h0
 rw [Lib.byteCells_length] at hown;obtain ⟨g, cap, cur, fz, rfl, hbg, hg, hfz, hnc, hcm, hcs, htake⟩ : ∃ g cap cur fz, v = .slice (some ⟨g, 0, none⟩) l.length cap ∧ B ≤ g ∧ w.heap[g]? = some (.cells cur 5 fz) ∧ fz.2 ≤ l.length * 1 ∧ l.length ≤ cap ∧ cap ≤ maxLen ∧ cur.size = cap * 1 ∧ cur.toList.take (l.length * 1) = Lib.byteCells l := by
  rcases hown.2 with ⟨_, hz⟩ | ⟨g, cap, cur, fz, hv, r⟩
  · exact absurd hz hl0
  · exact ⟨g, cap, cur, fz, hv, r⟩
 have hd : w.drew.heap[b]? = some (.cells #[p, .slice (some ⟨g, 0, none⟩) l.length cap, .bool bad] 149 (0, 0)) := hbk;have c1 : w.drew.cell? ⟨b, 1, none⟩ = some (.slice (some ⟨g, 0, none⟩) l.length cap) := by rw [Lib.cell_of_heap hd]; rfl
 have hSD : (Builtin.unsafeSliceData_ #[145] 198 #[.slice (some ⟨g, 0, none⟩) l.length cap]).run Tryz.prog w.drew = .ok (.pointer (some ⟨g, 0, none⟩)) w.drew :=
  Lib.run_unsafeSliceData_row _ _ _ _ _ _ (by omega)
 have hUS : (Builtin.unsafeString_ #[198, 3] 9 #[.pointer (some ⟨g, 0, none⟩), .int .i64 l.length]).run Tryz.prog w.drew = .ok (.string ⟨l.toArray⟩) (w.drew.freeze ⟨g, 0, none⟩ l.length) := by
  refine Lib.run_unsafeString_row w.drew 198 3 9 5 Tryz.underlying198 cellsByte g cur.size (by have hg' : w.drew.heap[g]? = some (.cells cur 5 fz) := hg; simp [World.shape?, hg']) l h0 (by omega) (by unfold maxLen at hcm; omega) ?_;intro j x hx;exact hown.cells (g := g) rfl j (.int .u8 x.toNat) (by simp [Lib.byteCells, hx])
 have HE := hid (Lib.below_freeze (Below.drew (Below.refl B w)) (p := ⟨g, 0, none⟩) hbg l.length);clear hown hg hfz hcs htake hbk hd hp h0;go_enter Tryz.func113, Tryz.ntmps113
 go_wp2
 go_region
 all_goals (go_wp2; go_ret; exact ⟨rfl, HE.out⟩)
end Go.Proofs.YtkhmngljpfibcaaGreatDoor
