/- strings.Builder, strconv.Itoa, cover.key: what a call returns. -/
import Derived.Test.YtkhmngljpfibcaaGreatDoorPUu
import Derived.Test.YtkhmngljpfibcaaGreatDoorPCn
import Derived.Lib.Builder
import Derived.Lib.FrozenHead2
import Derived.Lib.OthersKept
import Derived.Lib.AppendStr
import Derived.Lib.ItoaLen
import Derived.ShutString
namespace Go.Proofs.YtkhmngljpfibcaaGreatDoor
set_option maxRecDepth 100000
set_option maxHeartbeats 3200000
open Go.Lib (hid)
open Go.RowKit

theorem bldInfo : (Tryz.prog.info? 147).map (·.size) = some 2 := by kernel_rfl
theorem bldLies : liesAt Tryz.prog Tryz.prog.depth 147 (2 / Tryz.prog.cellsOf 147) 0 147 1 = true := by kernel_rfl
theorem byteInfo : (Tryz.prog.info? 5).map (fun i => (i.zero, i.size, i.bytes)) = some (some (.int .u8 0), 1, 1) := by kernel_rfl
def Bld (B b : Nat) (l : List UInt8) (w : World) : Prop := Lib.IsBuilderF 147 5 B b (Lib.byteCells l) w
theorem copyCheck_used (b : Nat) (w : World) (h0 : w.cell? ⟨b, 0, none⟩ = some (.pointer (some ⟨b, 0, none⟩))) :
 Calls Tryz.prog 219 #[.pointer (some ⟨b, 0, none⟩)] w fun e w' => e = .returned (.tuple #[]) ∧ w' = w := by
 obtain ⟨j, hj, _⟩ := Option.map_eq_some_iff.1 bldInfo;have hn := fun w : World => Lib.run_neq_ptr_same w ⟨b, 0, none⟩ Tryz.underlying144 hj
 go_enter Tryz.func219, Tryz.ntmps219
 go_wp2
 go_end0
 exact ⟨rfl, rfl⟩
theorem copyCheck_fresh (b : Nat) (w : World) (h0 : w.cell? ⟨b, 0, none⟩ = some (.pointer none)) (hsh : w.shape? b = some (147, 2)) (hfz : w.frozen? ⟨b, 0, none⟩ = false) :
 Calls Tryz.prog 219 #[.pointer (some ⟨b, 0, none⟩)] w fun e w' => e = .returned (.tuple #[]) ∧ w' = w.setCell ⟨b, 0, none⟩ (.pointer (some ⟨b, 0, none⟩)) := by
 obtain ⟨j, hj, hjs⟩ := Option.map_eq_some_iff.1 bldInfo;have h1 := hid (Lib.run_to_unsafe w ⟨b, 0, none⟩ Tryz.underlying144 Tryz.underlying224 hj (by rw [hjs]; decide) hsh (Nat.zero_lt_succ 1));have h2 := hid (Lib.run_from_unsafe w ⟨b, 0, none⟩ Tryz.underlying224 Tryz.underlying144 hj hsh bldLies);clear hj hjs;go_enter Tryz.func219, Tryz.ntmps219
 go_wp2
 rw [h1.out];simp only [Result.andThen];rw [Oper.upon_value]
 go_wp2
 rw [run_callFunc_extern Tryz.func235 (by kernel_rfl) (by kernel_rfl) (by kernel_rfl) (e := Extern.AbiNoEscape.same) (by kernel_rfl)];rw [Lib.run_noEscape];simp only [Result.andThen];rw [Oper.upon_value]
 go_wp2
 rw [h2.out];simp only [Result.andThen];rw [Oper.upon_value]
 go_wp2
 go_end0
 exact ⟨rfl, rfl⟩
theorem copyCheck_any (B b : Nat) (bs : List Value) (w : World) (h : Lib.IsBuilderF 147 5 B b bs w) :
 Calls Tryz.prog 219 #[.pointer (some ⟨b, 0, none⟩)] w fun e w' => e = .returned (.tuple #[]) ∧ (Lib.BuilderAtF 147 5 B b (.pointer (some ⟨b, 0, none⟩)) bs w' ∧ Below B w w' ∧ Lib.OthersKept 5 (some b) w w') := by
 rcases h with h | h
 · refine (copyCheck_fresh b w h.cell0 h.shape h.frozen0).mono ?_;rintro e w' ⟨rfl, rfl⟩;exact ⟨rfl, h.used _, (Below.refl B w).setCell (p := ⟨b, 0, none⟩) h.1 _, (Lib.OthersKept.refl _ _ w).setCell ⟨b, 0, none⟩ rfl _⟩
 · refine (copyCheck_used b w h.cell0).mono ?_;rintro e w' ⟨rfl, rfl⟩;exact ⟨rfl, h, Below.refl B _, Lib.OthersKept.refl _ _ _⟩
theorem writeString_any (B b : Nat) (l : List UInt8) (s : ByteArray) (w : World) (h : Bld B b l w) (hlen : l.length + s.size ≤ 140737488355328) (hBw : B ≤ w.heap.size) :
 Calls Tryz.prog 177 #[.pointer (some ⟨b, 0, none⟩), .string s] w fun e w' => e = .returned (.tuple #[.int .i64 s.size, .nilIface]) ∧ (Bld B b (l ++ s.data.toList) w' ∧ Below B w w' ∧ Lib.OthersKept 5 (some b) w w') := by
 obtain ⟨i0, hi, hz0, hz1, hz2⟩ := info_parts byteInfo;have hll : (Lib.byteCells l).length = l.length := Lib.byteCells_length l;have HL := hid hll; clear hll;have HC := hid (show Lib.byteCells (l ++ s.data.toList) = Lib.byteCells l ++ Lib.strCells s by simp [Lib.byteCells, Lib.strCells]);unfold Bld at h ⊢;generalize Lib.byteCells l = bs at *;go_enter Tryz.func177, Tryz.ntmps177;go_wp2_with (go_at_call 219; refine (copyCheck_any B b bs _ h).mono ?_);rintro e w1 ⟨rfl, h1, hb1, hk1⟩;obtain ⟨hB, v, hbk, hown, hne⟩ := h1;have c0 : w1.cell? ⟨b, 0, none⟩ = some (.pointer (some ⟨b, 0, none⟩)) := by rw [Lib.cell_of_heap hbk]; rfl
 have c1 : w1.cell? ⟨b, 0 + 1, none⟩ = some v := by rw [Lib.cell_of_heap hbk]; rfl
 go_wp2_with (at_builtin; refine Lib.wpList_append_own_stringF _ rfl _ _ 145 9 rfl B 5 i0 Tryz.underlying145 Tryz.underlying9 hi hz0 hz1 hz2 _ _ _ rfl hown s rfl ?c3 ?c4 ?c5 ?_);case c3 => unfold maxLen; rw [HL.out]; omega
 case c4 => rw [HL.out]; omega
 case c5 => have := hb1.size; omega
 intro v' w2 hown' hgrow _;have hlt : b < w1.heap.size := by
  rcases Nat.lt_or_ge b w1.heap.size with h' | h'
  · exact h'
  · simp [Array.getElem?_eq_none h'] at hbk
 have hb2 : w2.heap[b]? = some (.cells #[.pointer (some ⟨b, 0, none⟩), v] 147 (0, 0)) := by
  rw [hgrow.block b hlt (fun e => hne e.symm)];exact hbk
 have d0 : w2.cell? ⟨b, 0, none⟩ = some (.pointer (some ⟨b, 0, none⟩)) := by rw [Lib.cell_of_heap hb2]; rfl
 have d1 : w2.cell? ⟨b, 0 + 1, none⟩ = some v := by rw [Lib.cell_of_heap hb2]; rfl
 have f1 : w2.frozen? ⟨b, 0 + 1, none⟩ = false := Lib.frozen_of_heap hb2 1;obtain ⟨ao, n', cap, rfl⟩ : ∃ ao n' cap, v' = .slice ao n' cap := by
  rcases hown'.2 with ⟨hv, _⟩ | ⟨g, cap, cur, fz, hv, _⟩
  · exact ⟨_, _, _, hv⟩
  · exact ⟨_, _, _, hv⟩
 go_wp2
 go_ret2;refine ⟨rfl, .inr ?_, ?_, (hk1.grown hgrow (Lib.ownsRowF_kind hown)).setCell ⟨b, 1, none⟩ rfl _⟩
 · rw [HC.out]; exact Lib.BuilderAtF.put (T := 147) (e := 5) hB hb2 (bs' := bs ++ Lib.strCells s) (by simpa [Lib.strCells_length] using hown') (by decide)
 · exact (hb1.grown hgrow (by have := hb1.size; omega) (fun k hk => (hown.lt k hk).1)).setCell (p := ⟨b, 1, none⟩) hB _
theorem bString_any (B b : Nat) (l : List UInt8) (w : World) (h : Bld B b l w) (hBw : B ≤ w.heap.size) :
 Calls Tryz.prog 113 #[.pointer (some ⟨b, 0, none⟩)] w fun e w' => e = .returned (.string ⟨l.toArray⟩) ∧ (Bld B b l w' ∧ Below B w w' ∧ Lib.OthersKept 5 (some b) w w') :=
 Tryz.Builder_String_any_k B b l w h hBw
def LB (w wr : World) (acc : List UInt8) : Prop := Bld w.heap.size w.heap.size acc wr ∧ Below w.heap.size w wr
theorem LB.start (w : World) : LB w (w.alloc (.cells #[.pointer none, .slice none 0 0] 147)) [] :=
 ⟨Lib.IsBuilderF.of (Lib.fresh_isBuilder 147 5 w), below_alloc w _⟩
theorem LB.write {w wr w' : World} {acc acc' : List UInt8} (h : LB w wr acc) (hB : Bld w.heap.size w.heap.size acc' w') (hl : Below w.heap.size wr w') : LB w w' acc' :=
 ⟨hB, h.2.trans hl⟩
theorem LB.bld {w wr : World} {acc : List UInt8} (h : LB w wr acc) : Bld w.heap.size w.heap.size acc wr := h.1
theorem LB.size {w wr : World} {acc : List UInt8} (h : LB w wr acc) : w.heap.size ≤ wr.heap.size := h.2.size
def Tb (w : World) : Prop := Lib.TabIs Tryz.prog w "internal/strconv.uint64pow10" .u64 Lib.pow10Tab
theorem gPow : Tryz.prog.globalNamed "internal/strconv.uint64pow10" = some 5 := by kernel_rfl
theorem Tb.below {w w' : World} (h : Tb w) (hb : Below w.heap.size w w') : Tb w' := by
 refine var?_below hb gPow ?_ h;have h' := h;unfold Tb Lib.TabIs World.var? at h';rw [gPow] at h';rcases Nat.lt_or_ge 5 w.heap.size with h2 | h2
 · exact h2
 · simp [Array.getElem?_eq_none h2] at h'
theorem below_grow_drewN (w : World) (k : Nat) (os : Array Obj) : Below w.heap.size w (Sort.grow (w.drewN k) os) := by
 refine ⟨rfl, rfl, rfl, ?_, fun i hi => ?_⟩
 · show w.heap.size ≤ (w.heap ++ os).size;simp
 · show (w.heap ++ os)[i]? = w.heap[i]?;rw [Array.getElem?_append_left hi]
theorem itoa_any (n : Int) (w : World) (h0 : -9223372036854775808 ≤ n) (h1 : n ≤ 9223372036854775807) (ht : Tb w) :
 Calls Tryz.prog 178 #[.int .i64 n] w fun e w' => e = .returned (.string ⟨(Lib.itoa n).toArray⟩) ∧ Below w.heap.size w w' :=
 (Tryz.strconv_Itoa n h0 h1 w ht).mono fun e w' ⟨h1, k, os, h2⟩ => ⟨h1, by rw [h2]; exact below_grow_drewN w k os⟩
theorem Bld.below {B b2 : Nat} {l : List UInt8} {w w' : World} (h : Bld B b2 l w) (hb : Below w.heap.size w w') : Bld B b2 l w' := by
 unfold Bld at h ⊢;have key : ∀ p, Lib.BuilderAtF 147 5 B b2 p (Lib.byteCells l) w → Lib.BuilderAtF 147 5 B b2 p (Lib.byteCells l) w' := by
  intro p hp;have hlt := hp.lt;obtain ⟨hB, v, hv, hown, hne⟩ := hp;refine ⟨hB, v, ?_, ?_, hne⟩
  · rw [hb.block b2 hlt]; exact hv
  · obtain ⟨h1, h2⟩ := hown;refine ⟨h1, ?_⟩;rcases h2 with h2 | ⟨g, cap, cur, fz, hv2, hg2, hh, r⟩
    · exact .inl h2
    · have hglt : g < w.heap.size := by
       rcases Nat.lt_or_ge g w.heap.size with h3 | h3
       · exact h3
       · simp [Array.getElem?_eq_none h3] at hh
      exact .inr ⟨g, cap, cur, fz, hv2, hg2, by rw [hb.block g hglt]; exact hh, r⟩
 rcases h with h | h
 · exact .inl (key _ h)
 · exact .inr (key _ h)
theorem LB.below {w wr w' : World} {acc : List UInt8} (h : LB w wr acc) (hb : Below wr.heap.size wr w') : LB w w' acc := ⟨h.1.below hb, below_then h.2 hb⟩

def keyL (l : List Int) : List UInt8 := l.flatMap fun x => Lib.itoa x ++ [32]
theorem keyL_snoc (l : List Int) (k : Nat) (h : k < l.length) : keyL (l.take (k + 1)) = keyL (l.take k) ++ (Lib.itoa l[k] ++ [32]) := by
 unfold keyL; rw [List.take_succ_eq_append_getElem h, List.flatMap_append]; simp
def i64s (l : List Int) : Prop := ∀ x ∈ l, -9223372036854775808 ≤ x ∧ x ≤ 9223372036854775807
theorem keyL_len (l : List Int) (h : i64s l) : (keyL l).length ≤ 22 * l.length := by
 induction l with
 | nil => simp [keyL]
 | cons x l ih =>
  have h1 := ih fun y hy => h y (List.mem_cons_of_mem _ hy)
  have h2 := h x (List.mem_cons_self ..);have h3 := Lib.itoa_length_le x h2.1 h2.2;have e : keyL (x :: l) = (Lib.itoa x ++ [32]) ++ keyL l := by simp [keyL]
  rw [e, List.length_append, List.length_append, List.length_cons]; simp; omega
theorem i64s_take {l : List Int} (h : i64s l) (k : Nat) : i64s (l.take k) := fun x hx => h x (List.mem_of_mem_take hx)
theorem key_any (A : Option Addr) (n c : Nat) (L : List Int) (w : World) (h : ZIn w A L) (hn : L.length = n) (hnb : n ≤ 1000000) (hi : i64s L) (ht : Tb w) :
 Calls Tryz.prog 197 #[.slice A n c] w fun e w' => e = .returned (.string ⟨(keyL L).toArray⟩) ∧ Below w.heap.size w w' := by
 have H0 := hid (LB.start w);have HT := hid ht;have HZ := hid h;have HN := hid hn;have HI := hid hi;clear ht h hn hi;go_enter Tryz.func197, Tryz.ntmps197;go_wp2_with fail;go_loopg [8] (n) (fun g i wr => ∃ k : Nat, k + g = n ∧ i = .int .i64 k ∧ LB w wr (keyL (L.take k)));case atStart => exact ⟨0, by omega, rfl, H0.out⟩
 case round =>
  obtain ⟨k, hk, rfl, hLB⟩ := hrel;have HS := hid hLB;have HK := hid hk;have HZr := hid (HZ.out.below hLB.2);have HTr := hid (HT.out.below hLB.2);have HL := hid (keyL_len (L.take k) (i64s_take HI.out k));have hle : k ≤ n := by omega
  clear hLB hk H0;by_cases hlt : k < n
  · have hlt' : k < L.length := by rw [HN.out]; exact hlt
    obtain ⟨ad, rfl, hpa, q0⟩ := HZr.out k hlt';have HE := hid (keyL_snoc L k hlt');obtain ⟨hx1, hx2⟩ := HI.out _ (List.getElem_mem hlt');have hxl := Lib.itoa_length_le L[k] hx1 hx2;have HX := hid hxl;have hlk : (L.take k).length = k := by rw [List.length_take]; omega
    rw [hlk] at HL;generalize L[k] = x at *;generalize keyL (L.take k) = acc at *;have HIt := hid (fun w ht => itoa_any x w hx1 hx2 ht);obtain ⟨y, hy⟩ : ∃ y : ByteArray, y = ⟨(Lib.itoa x).toArray⟩ := ⟨_, rfl⟩;have HYd := hid (show y.data.toList = Lib.itoa x by rw [hy]);have hys : y.size ≤ 21 := by rw [hy]; show (Lib.itoa x).toArray.size ≤ 21; rw [List.size_toArray]; exact hxl
    rw [← hy] at HIt;have hys2 : (y.size : Int) ≤ 21 := by omega
    have hys3 : ¬ 9223372036854775807 < y.size + 1 := by omega
    have HSz := hid (show acc.length + (y ++ (⟨#[32]⟩ : ByteArray)).size ≤ 140737488355328 by
     rw [ByteArray.size_append];show acc.length + (y.size + 1) ≤ _;have h1 := HL.out;omega)
    clear hy hx1 hx2;clear hlt' hxl hlk;go_wp2_with fail;((with_reducible refine (HIt.out _ HTr.out).mono ?_); rintro e w1 ⟨rfl, hb1⟩)
    replace HS := hid (LB.below HS.out hb1);clear hb1;go_wp2_with fail;((with_reducible refine (writeString_any w.heap.size w.heap.size _ _ _ HS.out.bld HSz.out HS.out.size).mono ?_); rintro e wn ⟨rfl, hB2, hl2, _⟩)
    replace HS := hid (HS.out.write hB2 hl2);clear hB2 hl2;go_wp2_with fail;go_roundg (gk - 1);case measure => have := HK.out; omega
    case rel => exact ⟨k + 1, by have := HK.out; omega, by go_num, by rw [HE.out, ← HYd.out]; simpa using HS.out⟩
  · have HX := hid (show L.take k = L from List.take_of_length_le (by rw [HN.out]; omega));go_wp2_with fail;((with_reducible refine (bString_any w.heap.size w.heap.size _ _ HS.out.bld HS.out.size).mono ?_); rintro e wn ⟨rfl, hB2, hl2, _⟩)
    replace HS := hid (HS.out.write hB2 hl2);clear hB2 hl2;go_wp2_with fail;go_ret;exact ⟨ret_str (by rw [HX.out]), HS.out.2⟩
end Go.Proofs.YtkhmngljpfibcaaGreatDoor
