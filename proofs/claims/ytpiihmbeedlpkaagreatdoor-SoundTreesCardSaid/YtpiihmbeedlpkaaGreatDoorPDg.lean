/- strings.Builder, strconv.Itoa, cover.key: what a call returns. Texts of markings are different for different markings; a map from them to numbers. -/
import Derived.Test.YtpiihmbeedlpkaaGreatDoorPUu
import Derived.Test.YtpiihmbeedlpkaaGreatDoorPCn
import Derived.Lib.Builder
import Derived.Lib.FrozenHead2
import Derived.Lib.OthersKept
import Derived.Lib.AppendStr
import Derived.Lib.ItoaLen
import Derived.ShutString
import Derived.Maps.OwnSet
import Derived.StringKeys
namespace Go.Proofs.YtpiihmbeedlpkaaGreatDoor
set_option maxRecDepth 100000
set_option maxHeartbeats 3200000
open Go.Lib (hid)
section
open Go.RowKit

theorem bldInfo : (Tryz.prog.info? 130).map (·.size) = some 2 := by kernel_rfl
theorem bldLies : liesAt Tryz.prog Tryz.prog.depth 130 (2 / Tryz.prog.cellsOf 130) 0 130 1 = true := by kernel_rfl
theorem byteInfo : (Tryz.prog.info? 5).map (fun i => (i.zero, i.size, i.bytes)) = some (some (.int .u8 0), 1, 1) := by kernel_rfl
def Bld (B b : Nat) (l : List UInt8) (w : World) : Prop := Lib.IsBuilderF 130 5 B b (Lib.byteCells l) w
theorem copyCheck_used (b : Nat) (w : World) (h0 : w.cell? ⟨b, 0, none⟩ = some (.pointer (some ⟨b, 0, none⟩))) :
 Calls Tryz.prog 93 #[.pointer (some ⟨b, 0, none⟩)] w fun e w' => e = .returned (.tuple #[]) ∧ w' = w := by
 obtain ⟨j, hj, _⟩ := Option.map_eq_some_iff.1 bldInfo;have hn := fun w : World => Lib.run_neq_ptr_same w ⟨b, 0, none⟩ Tryz.underlying128 hj
 go_enter Tryz.func93, Tryz.ntmps93
 go_wp2
 go_end0
 exact ⟨rfl, rfl⟩
theorem copyCheck_fresh (b : Nat) (w : World) (h0 : w.cell? ⟨b, 0, none⟩ = some (.pointer none)) (hsh : w.shape? b = some (130, 2)) (hfz : w.frozen? ⟨b, 0, none⟩ = false) :
 Calls Tryz.prog 93 #[.pointer (some ⟨b, 0, none⟩)] w fun e w' => e = .returned (.tuple #[]) ∧ w' = w.setCell ⟨b, 0, none⟩ (.pointer (some ⟨b, 0, none⟩)) := by
 obtain ⟨j, hj, hjs⟩ := Option.map_eq_some_iff.1 bldInfo;have h1 := hid (Lib.run_to_unsafe w ⟨b, 0, none⟩ Tryz.underlying128 Tryz.underlying139 hj (by rw [hjs]; decide) hsh (Nat.zero_lt_succ 1));have h2 := hid (Lib.run_from_unsafe w ⟨b, 0, none⟩ Tryz.underlying139 Tryz.underlying128 hj hsh bldLies);clear hj hjs;go_enter Tryz.func93, Tryz.ntmps93
 go_wp2
 rw [h1.out];simp only [Result.andThen];rw [Oper.upon_value]
 go_wp2
 rw [run_callFunc_extern Tryz.func95 (by kernel_rfl) (by kernel_rfl) (by kernel_rfl) (e := Extern.AbiNoEscape.same) (by kernel_rfl)];rw [Lib.run_noEscape];simp only [Result.andThen];rw [Oper.upon_value]
 go_wp2
 rw [h2.out];simp only [Result.andThen];rw [Oper.upon_value]
 go_wp2
 go_end0
 exact ⟨rfl, rfl⟩
theorem copyCheck_any (B b : Nat) (bs : List Value) (w : World) (h : Lib.IsBuilderF 130 5 B b bs w) :
 Calls Tryz.prog 93 #[.pointer (some ⟨b, 0, none⟩)] w fun e w' => e = .returned (.tuple #[]) ∧ (Lib.BuilderAtF 130 5 B b (.pointer (some ⟨b, 0, none⟩)) bs w' ∧ Below B w w' ∧ Lib.OthersKept 5 (some b) w w') := by
 rcases h with h | h
 · refine (copyCheck_fresh b w h.cell0 h.shape h.frozen0).mono ?_;rintro e w' ⟨rfl, rfl⟩;exact ⟨rfl, h.used _, (Below.refl B w).setCell (p := ⟨b, 0, none⟩) h.1 _, (Lib.OthersKept.refl _ _ w).setCell ⟨b, 0, none⟩ rfl _⟩
 · refine (copyCheck_used b w h.cell0).mono ?_;rintro e w' ⟨rfl, rfl⟩;exact ⟨rfl, h, Below.refl B _, Lib.OthersKept.refl _ _ _⟩
theorem writeString_any (B b : Nat) (l : List UInt8) (s : ByteArray) (w : World) (h : Bld B b l w) (hlen : l.length + s.size ≤ 140737488355328) (hBw : B ≤ w.heap.size) :
 Calls Tryz.prog 87 #[.pointer (some ⟨b, 0, none⟩), .string s] w fun e w' => e = .returned (.tuple #[.int .i64 s.size, .nilIface]) ∧ (Bld B b (l ++ s.data.toList) w' ∧ Below B w w' ∧ Lib.OthersKept 5 (some b) w w') := by
 obtain ⟨i0, hi, hz0, hz1, hz2⟩ := info_parts byteInfo;have hll : (Lib.byteCells l).length = l.length := Lib.byteCells_length l;have HL := hid hll; clear hll;have HC := hid (show Lib.byteCells (l ++ s.data.toList) = Lib.byteCells l ++ Lib.strCells s by simp [Lib.byteCells, Lib.strCells]);unfold Bld at h ⊢;generalize Lib.byteCells l = bs at *;go_enter Tryz.func87, Tryz.ntmps87;go_wp2_with (go_at_call 93; refine (copyCheck_any B b bs _ h).mono ?_);rintro e w1 ⟨rfl, h1, hb1, hk1⟩;obtain ⟨hB, v, hbk, hown, hne⟩ := h1;have c0 : w1.cell? ⟨b, 0, none⟩ = some (.pointer (some ⟨b, 0, none⟩)) := by rw [Lib.cell_of_heap hbk]; rfl
 have c1 : w1.cell? ⟨b, 0 + 1, none⟩ = some v := by rw [Lib.cell_of_heap hbk]; rfl
 go_wp2_with (at_builtin; refine Lib.wpList_append_own_stringF _ rfl _ _ 125 9 rfl B 5 i0 Tryz.underlying125 Tryz.underlying9 hi hz0 hz1 hz2 _ _ _ rfl hown s rfl ?c3 ?c4 ?c5 ?_);case c3 => unfold maxLen; rw [HL.out]; omega
 case c4 => rw [HL.out]; omega
 case c5 => have := hb1.size; omega
 intro v' w2 hown' hgrow _;have hlt : b < w1.heap.size := by
  rcases Nat.lt_or_ge b w1.heap.size with h' | h'
  · exact h'
  · simp [Array.getElem?_eq_none h'] at hbk
 have hb2 : w2.heap[b]? = some (.cells #[.pointer (some ⟨b, 0, none⟩), v] 130 (0, 0)) := by
  rw [hgrow.block b hlt (fun e => hne e.symm)];exact hbk
 have d0 : w2.cell? ⟨b, 0, none⟩ = some (.pointer (some ⟨b, 0, none⟩)) := by rw [Lib.cell_of_heap hb2]; rfl
 have d1 : w2.cell? ⟨b, 0 + 1, none⟩ = some v := by rw [Lib.cell_of_heap hb2]; rfl
 have f1 : w2.frozen? ⟨b, 0 + 1, none⟩ = false := Lib.frozen_of_heap hb2 1;obtain ⟨ao, n', cap, rfl⟩ : ∃ ao n' cap, v' = .slice ao n' cap := by
  rcases hown'.2 with ⟨hv, _⟩ | ⟨g, cap, cur, fz, hv, _⟩
  · exact ⟨_, _, _, hv⟩
  · exact ⟨_, _, _, hv⟩
 go_wp2
 go_ret2;refine ⟨rfl, .inr ?_, ?_, (hk1.grown hgrow (Lib.ownsRowF_kind hown)).setCell ⟨b, 1, none⟩ rfl _⟩
 · rw [HC.out]; exact Lib.BuilderAtF.put (T := 130) (e := 5) hB hb2 (bs' := bs ++ Lib.strCells s) (by simpa [Lib.strCells_length] using hown') (by decide)
 · exact (hb1.grown hgrow (by have := hb1.size; omega) (fun k hk => (hown.lt k hk).1)).setCell (p := ⟨b, 1, none⟩) hB _
theorem bString_any (B b : Nat) (l : List UInt8) (w : World) (h : Bld B b l w) (hBw : B ≤ w.heap.size) :
 Calls Tryz.prog 89 #[.pointer (some ⟨b, 0, none⟩)] w fun e w' => e = .returned (.string ⟨l.toArray⟩) ∧ (Bld B b l w' ∧ Below B w w' ∧ Lib.OthersKept 5 (some b) w w') :=
 Tryz.Builder_String_any_k B b l w h hBw
def LB (w wr : World) (acc : List UInt8) : Prop := Bld w.heap.size w.heap.size acc wr ∧ Below w.heap.size w wr
theorem LB.start (w : World) : LB w (w.alloc (.cells #[.pointer none, .slice none 0 0] 130)) [] :=
 ⟨Lib.IsBuilderF.of (Lib.fresh_isBuilder 130 5 w), below_alloc w _⟩
theorem LB.write {w wr w' : World} {acc acc' : List UInt8} (h : LB w wr acc) (hB : Bld w.heap.size w.heap.size acc' w') (hl : Below w.heap.size wr w') : LB w w' acc' :=
 ⟨hB, h.2.trans hl⟩
theorem LB.bld {w wr : World} {acc : List UInt8} (h : LB w wr acc) : Bld w.heap.size w.heap.size acc wr := h.1
theorem LB.size {w wr : World} {acc : List UInt8} (h : LB w wr acc) : w.heap.size ≤ wr.heap.size := h.2.size
def Tb (w : World) : Prop := Lib.TabIs Tryz.prog w "internal/strconv.uint64pow10" .u64 Lib.pow10Tab
theorem gPow : Tryz.prog.globalNamed "internal/strconv.uint64pow10" = some 0 := by kernel_rfl
theorem Tb.below {w w' : World} (h : Tb w) (hb : Below w.heap.size w w') : Tb w' := by
 refine var?_below hb gPow ?_ h;have h' := h;unfold Tb Lib.TabIs World.var? at h';rw [gPow] at h';rcases Nat.lt_or_ge 0 w.heap.size with h2 | h2
 · exact h2
 · simp [Array.getElem?_eq_none h2] at h'
theorem below_grow_drewN (w : World) (k : Nat) (os : Array Obj) : Below w.heap.size w (Sort.grow (w.drewN k) os) := by
 refine ⟨rfl, rfl, rfl, ?_, fun i hi => ?_⟩
 · show w.heap.size ≤ (w.heap ++ os).size;simp
 · show (w.heap ++ os)[i]? = w.heap[i]?;rw [Array.getElem?_append_left hi]
theorem itoa_any (n : Int) (w : World) (h0 : -9223372036854775808 ≤ n) (h1 : n ≤ 9223372036854775807) (ht : Tb w) :
 Calls Tryz.prog 88 #[.int .i64 n] w fun e w' => e = .returned (.string ⟨(Lib.itoa n).toArray⟩) ∧ Below w.heap.size w w' :=
 (Tryz.strconv_Itoa n h0 h1 w ht).mono fun e w' ⟨h1, k, os, h2⟩ => ⟨h1, by rw [h2]; exact below_grow_drewN w k os⟩
theorem Bld.below {B b2 : Nat} {l : List UInt8} {w w' : World} (h : Bld B b2 l w) (hb : Below w.heap.size w w') : Bld B b2 l w' := by
 unfold Bld at h ⊢;have key : ∀ p, Lib.BuilderAtF 130 5 B b2 p (Lib.byteCells l) w → Lib.BuilderAtF 130 5 B b2 p (Lib.byteCells l) w' := by
  intro p hp;have hlt := hp.lt;obtain ⟨hB, v, hv, hown, hne⟩ := hp;refine ⟨hB, v, ?_, ?_, hne⟩
  · rw [hb.block b2 hlt]; exact hv
  · obtain ⟨h1, h2⟩ := hown;refine ⟨h1, ?_⟩;rcases h2 with h2 | ⟨g, cap, cur, fz, hv2, hg2, hh, r⟩
    · exact .inl h2
    · have hglt : g < w.heap.size := by
       rcases Nat.lt_or_ge g w.heap.size with h3 | h3
       · exact h3
       · simp [Array.getElem?_eq_none h3] at hh
      exact .inr ⟨g, cap, cur, fz, hv2, hg2, by rw [hb.block g hglt]; exact hh, r⟩
 rcases h with h | h
 · exact .inl (key _ h)
 · exact .inr (key _ h)
theorem LB.below {w wr w' : World} {acc : List UInt8} (h : LB w wr acc) (hb : Below wr.heap.size wr w') : LB w w' acc := ⟨h.1.below hb, below_then h.2 hb⟩

def keyL (l : List Int) : List UInt8 := l.flatMap fun x => Lib.itoa x ++ [32]
theorem keyL_snoc (l : List Int) (k : Nat) (h : k < l.length) : keyL (l.take (k + 1)) = keyL (l.take k) ++ (Lib.itoa l[k] ++ [32]) := by
 unfold keyL; rw [List.take_succ_eq_append_getElem h, List.flatMap_append]; simp
def i64s (l : List Int) : Prop := ∀ x ∈ l, -9223372036854775808 ≤ x ∧ x ≤ 9223372036854775807
theorem keyL_len (l : List Int) (h : i64s l) : (keyL l).length ≤ 22 * l.length := by
 induction l with
 | nil => simp [keyL]
 | cons x l ih =>
  have h1 := ih fun y hy => h y (List.mem_cons_of_mem _ hy)
  have h2 := h x (List.mem_cons_self ..);have h3 := Lib.itoa_length_le x h2.1 h2.2;have e : keyL (x :: l) = (Lib.itoa x ++ [32]) ++ keyL l := by simp [keyL]
  rw [e, List.length_append, List.length_append, List.length_cons]; simp; omega
theorem i64s_take {l : List Int} (h : i64s l) (k : Nat) : i64s (l.take k) := fun x hx => h x (List.mem_of_mem_take hx)
theorem key_any (A : Option Addr) (n c : Nat) (L : List Int) (w : World) (h : ZIn w A L) (hn : L.length = n) (hnb : n ≤ 1000000) (hi : i64s L) (ht : Tb w) :
 Calls Tryz.prog 77 #[.slice A n c] w fun e w' => e = .returned (.string ⟨(keyL L).toArray⟩) ∧ Below w.heap.size w w' := by
 have H0 := hid (LB.start w);have HT := hid ht;have HZ := hid h;have HN := hid hn;have HI := hid hi;clear ht h hn hi;go_enter Tryz.func77, Tryz.ntmps77;go_wp2_with fail;go_loopg [8] (n) (fun g i wr => ∃ k : Nat, k + g = n ∧ i = .int .i64 k ∧ LB w wr (keyL (L.take k)));case atStart => exact ⟨0, by omega, rfl, H0.out⟩
 case round =>
  obtain ⟨k, hk, rfl, hLB⟩ := hrel;have HS := hid hLB;have HK := hid hk;have HZr := hid (HZ.out.below hLB.2);have HTr := hid (HT.out.below hLB.2);have HL := hid (keyL_len (L.take k) (i64s_take HI.out k));have hle : k ≤ n := by omega
  clear hLB hk H0;by_cases hlt : k < n
  · have hlt' : k < L.length := by rw [HN.out]; exact hlt
    obtain ⟨ad, rfl, hpa, q0⟩ := HZr.out k hlt';have HE := hid (keyL_snoc L k hlt');obtain ⟨hx1, hx2⟩ := HI.out _ (List.getElem_mem hlt');have hxl := Lib.itoa_length_le L[k] hx1 hx2;have HX := hid hxl;have hlk : (L.take k).length = k := by rw [List.length_take]; omega
    rw [hlk] at HL;generalize L[k] = x at *;generalize keyL (L.take k) = acc at *;have HIt := hid (fun w ht => itoa_any x w hx1 hx2 ht);obtain ⟨y, hy⟩ : ∃ y : ByteArray, y = ⟨(Lib.itoa x).toArray⟩ := ⟨_, rfl⟩;have HYd := hid (show y.data.toList = Lib.itoa x by rw [hy]);have hys : y.size ≤ 21 := by rw [hy]; show (Lib.itoa x).toArray.size ≤ 21; rw [List.size_toArray]; exact hxl
    rw [← hy] at HIt;have hys2 : (y.size : Int) ≤ 21 := by omega
    have hys3 : ¬ 9223372036854775807 < y.size + 1 := by omega
    have HSz := hid (show acc.length + (y ++ (⟨#[32]⟩ : ByteArray)).size ≤ 140737488355328 by
     rw [ByteArray.size_append];show acc.length + (y.size + 1) ≤ _;have h1 := HL.out;omega)
    clear hy hx1 hx2;clear hlt' hxl hlk;go_wp2_with fail;((with_reducible refine (HIt.out _ HTr.out).mono ?_); rintro e w1 ⟨rfl, hb1⟩)
    replace HS := hid (LB.below HS.out hb1);clear hb1;go_wp2_with fail;((with_reducible refine (writeString_any w.heap.size w.heap.size _ _ _ HS.out.bld HSz.out HS.out.size).mono ?_); rintro e wn ⟨rfl, hB2, hl2, _⟩)
    replace HS := hid (HS.out.write hB2 hl2);clear hB2 hl2;go_wp2_with fail;go_roundg (gk - 1);case measure => have := HK.out; omega
    case rel => exact ⟨k + 1, by have := HK.out; omega, by go_num, by rw [HE.out, ← HYd.out]; simpa using HS.out⟩
  · have HX := hid (show L.take k = L from List.take_of_length_le (by rw [HN.out]; omega));go_wp2_with fail;((with_reducible refine (bString_any w.heap.size w.heap.size _ _ HS.out.bld HS.out.size).mono ?_); rintro e wn ⟨rfl, hB2, hl2, _⟩)
    replace HS := hid (HS.out.write hB2 hl2);clear hB2 hl2;go_wp2_with fail;go_ret;exact ⟨ret_str (by rw [HX.out]), HS.out.2⟩
end
section
open Go.RowKit Go.WideShapes

def dval (l : List UInt8) : Nat := l.foldl (fun n c => 10 * n + (c.toNat - 48)) 0
theorem dval_snoc (l : List UInt8) (c : UInt8) : dval (l ++ [c]) = 10 * dval l + (c.toNat - 48) := by unfold dval; simp
theorem dig_byte (k : Nat) (h : k < 10) : (UInt8.ofNat (48 + k)).toNat = 48 + k := by
 simp [UInt8.toNat_ofNat']; omega
theorem dec_induct {P : Nat → List UInt8 → Prop} (h0 : ∀ u, u < 10 → P u [UInt8.ofNat (48 + u)]) (hs : ∀ u, 10 ≤ u → P (u / 10) (Lib.decDigits (u / 10)) → P u (Lib.decDigits (u / 10) ++ [UInt8.ofNat (48 + u % 10)])) : ∀ u, P u (Lib.decDigits u) := by
 intro u
 induction u using Nat.strongRecOn with
 | _ u ih =>
  by_cases h : u < 10
  · rw [Lib.decDigits_one h]; exact h0 u h
  · rw [Lib.decDigits, dif_neg h]; exact hs u (by omega) (ih (u / 10) (by omega))
theorem dec_dig (u : Nat) : ∀ c ∈ Lib.decDigits u, isDig c = true := by
 refine dec_induct (P := fun _ l => ∀ c ∈ l, isDig c = true) ?_ ?_ u
 · intro u hu c hc;have : c = UInt8.ofNat (48 + u) := by simpa using hc
   subst this; unfold isDig; rw [dig_byte u hu]; simp; omega
 · intro u hu ih c hc;rcases List.mem_append.1 hc with h | h
   · exact ih c h
   · have : c = UInt8.ofNat (48 + u % 10) := by simpa using h
     subst this; unfold isDig; rw [dig_byte _ (by omega)]; simp; omega
theorem dec_val (u : Nat) : dval (Lib.decDigits u) = u := by
 refine dec_induct (P := fun u l => dval l = u) ?_ ?_ u
 · intro u hu; unfold dval; simp only [List.foldl]; rw [dig_byte u hu]; omega
 · intro u hu ih; rw [dval_snoc, ih, dig_byte _ (by omega)]; omega
theorem dec_ne (u : Nat) : Lib.decDigits u ≠ [] := by
 refine dec_induct (P := fun _ l => l ≠ []) ?_ ?_ u
 · intro u hu; simp
 · intro u hu ih; simp
def numOf (s : List UInt8) : Int := match s with | [] => 0 | c :: r => if c.toNat = 45 then -(dval r : Int) else (dval (c :: r) : Int)
theorem numOf_itoa (n : Int) : numOf (Lib.itoa n) = n := by
 unfold Lib.itoa;by_cases hn : n < 0
 · rw [if_pos hn];unfold numOf;simp only;rw [if_pos (by decide), dec_val]; omega
 · rw [if_neg hn];have hd := dec_dig n.toNat;have hv := dec_val n.toNat;have hne := dec_ne n.toNat;cases hl : Lib.decDigits n.toNat with
   | nil => exact absurd hl hne
   | cons c r =>
    rw [hl] at hd hv;have hc : 48 ≤ c.toNat ∧ c.toNat ≤ 57 := by have := hd c (List.mem_cons_self ..); unfold isDig at this; simpa using this
    unfold numOf;simp only;rw [if_neg (by omega), hv]; omega
theorem itoa_inj (a b : Int) (h : Lib.itoa a = Lib.itoa b) : a = b := by rw [← numOf_itoa a, h, numOf_itoa]

theorem itoa_no32 (n : Int) : ∀ c ∈ Lib.itoa n, c ≠ 32 := by
 intro c hc;have hd : ∀ u : Nat, ∀ c ∈ Lib.decDigits u, c ≠ 32 := by
  intro u c hc e;subst e;have := dec_dig u _ hc
  revert this; decide
 unfold Lib.itoa at hc;split at hc
 · rcases List.mem_cons.1 hc with h | h
   · subst h; decide
   · exact hd _ c h
 · exact hd _ c hc
theorem cut32 (a b r q : List UInt8) (ha : ∀ c ∈ a, c ≠ 32) (hb : ∀ c ∈ b, c ≠ 32) (h : a ++ 32 :: r = b ++ 32 :: q) : a = b ∧ r = q := by
 induction a generalizing b with
 | nil =>
  cases b with
  | nil => simp at h; exact ⟨rfl, h⟩
  | cons x b => simp at h; exact absurd h.1.symm (hb x (List.mem_cons_self ..))
 | cons x a ih =>
  cases b with
  | nil => simp at h; exact absurd h.1 (ha x (List.mem_cons_self ..))
  | cons y b =>
   simp at h;obtain ⟨e, h2⟩ := h;obtain ⟨e2, e3⟩ := ih b (fun c hc => ha c (List.mem_cons_of_mem _ hc)) (fun c hc => hb c (List.mem_cons_of_mem _ hc)) h2;exact ⟨by rw [e, e2], e3⟩
theorem keyL_inj : ∀ (a b : List Int), keyL a = keyL b → a = b := by
 intro a
 induction a with
 | nil =>
  intro b h;cases b with
  | nil => rfl
  | cons y b => simp [keyL] at h
 | cons x a ih =>
  intro b h;cases b with
  | nil => simp [keyL] at h
  | cons y b =>
   have h' : Lib.itoa x ++ 32 :: keyL a = Lib.itoa y ++ 32 :: keyL b := by simpa [keyL] using h
   obtain ⟨e1, e2⟩ := cut32 _ _ _ _ (itoa_no32 x) (itoa_no32 y) h';rw [itoa_inj x y e1, ih b e2]
def okZ (z : List Int) : Prop := i64s z ∧ z.length ≤ 1000000
def klit (z : List Int) : Lit := .string (keyL z)
theorem klit_inj {a b : List Int} (h : klit a = klit b) : a = b := by unfold klit at h; injection h with h; exact keyL_inj a b h
theorem klit_key {z : List Int} (h : okZ z) : keyOf Tryz.prog 9 (.string ⟨(keyL z).toArray⟩) = some (klit z) := by
 have := keyL_len z h.1;exact WideMaps.keyOf_string_mk Tryz.underlying9 (by have h2 := h.2; unfold maxLen; simp [ByteArray.size]; omega)
def KM (w : World) (mb : Nat) (L : List (List Int)) : Prop :=
 ∃ (n : Nat) (D : DataW Unit), w.ownsMap Tryz.prog 9 (plainElem Tryz.prog 3) mb n D ∧ n ≤ L.length ∧ L.length ≤ 1000000 ∧ (∀ z, Maps.has D (klit z) = decide (z ∈ L)) ∧ ∀ (k : Nat) (z : List Int), L[k]? = some z → ∀ zd, D.atKey (klit z) zd = .lit (.int .i64 (k : Int))
theorem KM.made (w : World) : KM (w.alloc (.map #[] 0)) w.heap.size [] :=
 ⟨0, .map [], World.ownsMap_made _ _ _ _, Nat.le_refl _, by simp, fun z => rfl, fun k z h => by simp at h⟩
theorem KM.grown {w w' : World} {mb : Nat} {L : List (List Int)} {row : Option Nat} (h : KM w mb L) (hg : w.grownBy w' row) (hne : some mb ≠ row) : KM w' mb L := by
 obtain ⟨n, D, h1, h2⟩ := h;exact ⟨n, D, h1.kept hg hne, h2⟩
theorem KM.below {w w' : World} {mb : Nat} {L : List (List Int)} (h : KM w mb L) (hb : Below w.heap.size w w') : KM w' mb L := by
 obtain ⟨n, D, h1, h2⟩ := h;have hlt := h1.lt;obtain ⟨es, clock, hb', r⟩ := h1;exact ⟨n, D, ⟨es, clock, by rw [hb.block mb hlt]; exact hb', r⟩, h2⟩
theorem zeroInt (w : World) : (zeroValue 3).run Tryz.prog w = .ok (.int .i64 0) w := by kernel_rfl
theorem lit_inj {a b : Int} (h : (DataW.lit (.int .i64 a) : DataW Unit) = .lit (.int .i64 b)) : a = b := by cases h; rfl
theorem klit_is (z : List Int) : WideAt.IsKeyLit (klit z) := trivial
theorem KM.look {w : World} {mb : Nat} {L : List (List Int)} (h : KM w mb L) {z : List Int} (hz : okZ z) (c0 : Int) (hc0 : ∀ k : Nat, L[k]? = some z → c0 = k) (h0 : z ∉ L → c0 = 0) :
 (Instr.lookup 115 (.map (some mb)) (.string ⟨(keyL z).toArray⟩) true).run Tryz.prog w = .ok (.tuple #[.int .i64 c0, .bool (decide (z ∈ L))]) w := by
 obtain ⟨n, D, h1, h2, _, h3, h4⟩ := h;obtain ⟨v, ps, hrun, hR⟩ := h1.look_ok (Maps.string_keyed Tryz.underlying9) Tryz.underlying115 (zeroInt w) (plainElem_int Tryz.underlying3 (by decide)) (klit_key hz);rw [hrun, h3 z];have hv : v = .int .i64 c0 := by
  obtain ⟨c, rfl, hc, _⟩ := plainElem_int_inv Tryz.underlying3 hR;simp only [Prod.mk.injEq] at hc;by_cases hm : z ∈ L
  · obtain ⟨k, hk, e⟩ := List.getElem_of_mem hm;have hk' : L[k]? = some z := by rw [List.getElem?_eq_getElem hk, e]
    rw [h4 k z hk'] at hc;rw [hc0 k hk', lit_inj hc.1]
  · have : D.atKey (klit z) (.lit (.int .i64 0)) = .lit (.int .i64 0) := Maps.atKey_of_not_has (by rw [h3 z]; simpa using hm) _;rw [this] at hc;rw [h0 hm, lit_inj hc.1]
 rw [hv]
theorem KM.store {w : World} {mb : Nat} {L : List (List Int)} (h : KM w mb L) {z : List Int} (hz : okZ z) (hm : z ∉ L) (hl : L.length < 1000000) :
 ∃ w', (Instr.mapUpdate 115 (.map (some mb)) (.string ⟨(keyL z).toArray⟩) (.int .i64 (L.length : Int))).run Tryz.prog w = .ok () w' ∧ KM w' mb (L ++ [z]) ∧ w.grownBy w' (some mb) := by
 obtain ⟨n, D, h1, h2, h2', h3, h4⟩ := h;have hwf : (Lit.int IntKind.i64 (L.length : Int)).wf = true := by simp [Lit.wf, IntKind.min, IntKind.max, IntKind.bits, IntKind.signed]; omega
 obtain ⟨w', hrun, hown, hgr⟩ := h1.update (Maps.string_keyed Tryz.underlying9) Tryz.underlying115 (by unfold maxLen; omega) (klit_key hz) (plainElem_int Tryz.underlying3 hwf);have hI : Maps.IsMap D := h1.isMap;refine ⟨w', hrun, ⟨n + 1, _, hown, by rw [List.length_append]; simp; omega, by rw [List.length_append]; simp; omega, fun y => ?_, fun k y hk zd => ?_⟩, hgr⟩
 · by_cases e : y = z
   · subst e;rw [Maps.has_put_same hI (klit_is _)]; simp
   · rw [Maps.has_put_other (fun h => e (klit_inj h)), h3 y]; simp [e]
 · by_cases e : y = z
   · subst e;rw [Maps.atKey_put_same hI (klit_is _)];have : k = L.length := by
      rcases Nat.lt_or_ge k L.length with hlt | hge
      · rw [List.getElem?_append_left hlt] at hk;exact absurd (List.mem_of_getElem? hk) hm
      · rcases Nat.eq_zero_or_pos (k - L.length) with h0 | h0
        · omega
        · rw [List.getElem?_append_right hge, List.getElem?_eq_none (by simp; omega)] at hk; cases hk
     rw [this]
   · rw [Maps.atKey_put_other (fun h => e (klit_inj h))];refine h4 k y ?_ zd;rcases Nat.lt_or_ge k L.length with hlt | hge
     · rwa [List.getElem?_append_left hlt] at hk
     · rw [List.getElem?_append_right hge] at hk;rcases Nat.eq_zero_or_pos (k - L.length) with h0 | h0
       · rw [h0] at hk; simp at hk; exact absurd hk.symm e
       · rw [List.getElem?_eq_none (by simp; omega)] at hk; cases hk
end
end Go.Proofs.YtpiihmbeedlpkaaGreatDoor
