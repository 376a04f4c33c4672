/- verdict: words, Text: what a call returns. -/
import Derived.Test.YtkhmngljpfibcaaGreatDoorPUu
import Derived.Test.YtkhmngljpfibcaaGreatDoorPQs
import Derived.Test.YtkhmngljpfibcaaGreatDoorPQq
namespace Go.Proofs.YtkhmngljpfibcaaGreatDoor
set_option maxRecDepth 100000
set_option maxHeartbeats 12800000
open Go.Lib (hid)
open Go.RowKit

theorem wpAnyH_mono {P : Program} {md : Region.Mode} {ops : Array Oper} {Q : Exit → Act → World → Prop} {S S' : World → Prop} (hS : ∀ w, S' w → S w) : ∀ (fuel : Nat) (listed : Array Bool) (a : Act) (w : World), wpAnyH P md ops Q S' fuel listed a w → wpAnyH P md ops Q S fuel listed a w
 | 0, _, _, _, h => h
 | fuel + 1, _, _, _, h => ⟨h.1, fun i hi => wpOp_mono (fun a' w' h' => ⟨hS _ h'.1, wpAnyH_mono hS fuel _ a' w' h'.2⟩) (h.2 i hi)⟩
def wordS (i : Nat) : ByteArray := match i with
 | 0 => ⟨#[115, 111, 117, 110, 100]⟩
 | 1 => ⟨#[117, 110, 115, 111, 117, 110, 100]⟩
 | 2 => ⟨#[114, 101, 108, 97, 120, 101, 100]⟩
 | 3 => ⟨#[110, 111, 116, 95, 114, 101, 108, 97, 120, 101, 100]⟩
 | 4 => ⟨#[98, 111, 117, 110, 100, 101, 100]⟩
 | 5 => ⟨#[110, 111, 116, 95, 98, 111, 117, 110, 100, 101, 100]⟩
 | 6 => ⟨#[100, 101, 97, 100]⟩
 | 7 => ⟨#[110, 111, 116, 95, 100, 101, 97, 100]⟩
 | 8 => ⟨#[108, 105, 118, 101]⟩
 | _ => ⟨#[110, 111, 116, 95, 108, 105, 118, 101]⟩
theorem wordS_len (i : Nat) : (wordS i).size ≤ 11 := by
 unfold wordS;split <;> decide
theorem vwords_any (w : World) : Calls Tryz.prog 110 #[] w fun e w' => e = .returned (.slice (some ⟨w.heap.size, 0, none⟩) 10 10) ∧ (∃ o : Array Value, w'.heap[w.heap.size]? = some (.cells o 9 (0, 0)) ∧ ∀ i, i < 10 → o[i]? = some (.string (wordS i))) ∧ Below w.heap.size w w' := by
 go_enter Tryz.func110, Tryz.ntmps110;go_wp2_with fail;go_ret;refine ⟨rfl, ⟨_, heap_alloc_new w _, fun i hi => ?_⟩, below_alloc _ _⟩
 match i, hi with
 | 0, _ => rfl
 | 1, _ => rfl
 | 2, _ => rfl
 | 3, _ => rfl
 | 4, _ => rfl
 | 5, _ => rfl
 | 6, _ => rfl
 | 7, _ => rfl
 | 8, _ => rfl
 | 9, _ => rfl
def headL (i : Nat) : List UInt8 := ((⟨#[99, 108, 97, 105, 109, 32]⟩ : ByteArray) ++ wordS i).data.toList
def mvL (m : Mv) : List Int := [m.f, m.t, m.s]
def moveL (m : Mv) : List UInt8 := lineL (⟨#[109, 111, 118, 101]⟩ : ByteArray).data.toList (mvL m)
def movesL (V : List Mv) : List UInt8 := V.flatMap moveL
def textL (i : Nat) (cn : Int) (R P : List Int) (K : List (List Int)) (V : List Mv) (S X : List (List Int)) : List UInt8 :=
 lineL (headL i) [] ++ lineL (⟨#[110, 117, 109, 98, 101, 114]⟩ : ByteArray).data.toList [cn] ++ lineL (⟨#[114, 117, 110]⟩ : ByteArray).data.toList R ++ lineL (⟨#[112, 117, 109, 112]⟩ : ByteArray).data.toList P ++ linesL (⟨#[109, 97, 114, 107]⟩ : ByteArray).data.toList K ++ movesL V ++ linesL (⟨#[115, 101, 116]⟩ : ByteArray).data.toList S ++ linesL (⟨#[114, 111, 119]⟩ : ByteArray).data.toList X
def anyB (LL : List (List Int)) : Bool := LL.any fun l => l.any bigI
def badT (cn : Int) (R P : List Int) (K : List (List Int)) (V : List Mv) (S X : List (List Int)) : Bool :=
 (((((((false || ([] : List Int).any bigI) || [cn].any bigI) || R.any bigI) || P.any bigI) || anyB K) || V.any (fun m => (mvL m).any bigI)) || anyB S) || anyB X
theorem vmoves_snoc (V : List Mv) (k : Nat) (h : k < V.length) : movesL (V.take (k + 1)) = movesL (V.take k) ++ moveL V[k] := by
 unfold movesL;rw [List.take_succ_eq_append_getElem h, List.flatMap_append]; simp
theorem any_mvs (V : List Mv) (k : Nat) (h : k < V.length) : (V.take (k + 1)).any (fun m => (mvL m).any bigI) = ((V.take k).any (fun m => (mvL m).any bigI) || (mvL V[k]).any bigI) := by
 rw [List.take_succ_eq_append_getElem h, List.any_append]; simp
def mv64 (m : Mv) : Prop := i64s (mvL m)
theorem moves_len (V : List Mv) (h : ∀ m ∈ V, mv64 m) : (movesL V).length ≤ V.length * 71 := by
 induction V with
 | nil => simp [movesL]
 | cons x l ih =>
  have h1 := ih fun y hy => h y (List.mem_cons_of_mem _ hy)
  have h3 := lineL_len (⟨#[109, 111, 118, 101]⟩ : ByteArray).data.toList (mvL x) (h x (List.mem_cons_self ..));have e : movesL (x :: l) = moveL x ++ movesL l := by simp [movesL]
  rw [e, List.length_append, List.length_cons];have e2 : (⟨#[109, 111, 118, 101]⟩ : ByteArray).data.toList.length = 4 := rfl;have e3 : (mvL x).length = 3 := rfl;rw [e2, e3] at h3;unfold moveL;omega
theorem MvB.cells3 {w : World} {b : Nat} {f t s : Int} (h : MvB w b f t s) : w.cell? ⟨b, 0, none⟩ = some (.int .i64 f) ∧ w.cell? ⟨b, 1, none⟩ = some (.int .i64 t) ∧ w.cell? ⟨b, 2, none⟩ = some (.int .i64 s) := by
 have h' : w.heap[b]? = _ := h;exact ⟨by simp [World.cell?, h'], by simp [World.cell?, h'], by simp [World.cell?, h']⟩
theorem zlit_kept {w w' : World} (Z : List Int) (b : Nat) (hb : b < w.heap.size) (ho : Lib.OthersKept 5 (some b) (w.alloc (.cells (Z.map (Value.int .i64)).toArray 3)) w') : ZIn w' (some ⟨w.heap.size, 0, none⟩) Z := by
 have h0 := ho w.heap.size _ (heap_alloc_new w _) (by intro e; injection e with e; omega) (fun c fz h => by injection h with _ h2 _; exact absurd h2 (by decide));have hlt := (Array.getElem?_eq_some_iff.1 h0).1;intro i hi;refine ⟨_, rfl, by rw [add_block]; exact hlt, ?_⟩;rw [add_zero, Nat.zero_add, Lib.cell_of_heap h0];simp [hi]
structure TxM (cn : Int) (R P : List Int) (K : List (List Int)) (V : List Mv) (S X : List (List Int)) : Prop where
 cn : -9223372036854775808 ≤ cn ∧ cn ≤ 9223372036854775807
 r : i64s R ∧ R.length ≤ 1000
 p : i64s P ∧ P.length ≤ 1000
 k : K.length ≤ 1000 ∧ ∀ l ∈ K, i64s l ∧ l.length ≤ 1000
 v : V.length ≤ 1000 ∧ ∀ m ∈ V, mv64 m
 s : S.length ≤ 1000 ∧ ∀ l ∈ S, i64s l ∧ l.length ≤ 1000
 x : X.length ≤ 1000 ∧ ∀ l ∈ X, i64s l ∧ l.length ≤ 1000
def TxPo (cl cn : Int) (R P : List Int) (K : List (List Int)) (V : List Mv) (S X : List (List Int)) (w : World) (e : Ending) (w' : World) : Prop :=
 (e = if cl < 1 ∨ 10 < cl then .returned (.tuple #[.string ⟨#[]⟩, .int .i64 1]) else if badT cn R P K V S X = true then .returned (.tuple #[.string ⟨#[]⟩, .int .i64 1]) else if 262144 < (textL (cl - 1).toNat cn R P K V S X).length then .returned (.tuple #[.string ⟨#[]⟩, .int .i64 5]) else .returned (.tuple #[.string ⟨(textL (cl - 1).toNat cn R P K V S X).toArray⟩, .int .i64 0])) ∧ Below w.heap.size w w'
theorem vtext_any (cl cn : Int) (Ar : Option Addr) (nr cr : Nat) (R : List Int) (Ap : Option Addr) (np cp : Nat) (P : List Int) (Ak : Option Addr) (nk ck : Nat) (K : List (List Int)) (Av : Option Addr) (nv cv : Nat) (V : List Mv) (As : Option Addr) (ns cs : Nat) (S : List (List Int)) (Aw : Option Addr) (nw cw : Nat) (X : List (List Int)) (w : World) (hC : CfM w Ar nr R Ap np P Ak nk K Av nv V As ns S Aw nw X) (ht : Tb w) (hx : TxM cn R P K V S X) :
 Calls Tryz.prog 43 #[.agg #[.int .i64 cl, .int .i64 cn, .slice Ar nr cr, .slice Ap np cp, .slice Ak nk ck, .slice Av nv cv, .slice As ns cs, .slice Aw nw cw]] w (TxPo cl cn R P K V S X w) := by
 have HB0 := hid (below_alloc w (.cells #[.int .i64 cl, .int .i64 cn, .slice Ar nr cr, .slice Ap np cp, .slice Ak nk ck, .slice Av nv cv, .slice As ns cs, .slice Aw nw cw] 31));have HCb0 := hid (show CtB _ w.heap.size #[.int .i64 cl, .int .i64 cn, .slice Ar nr cr, .slice Ap np cp, .slice Ak nk ck, .slice Av nv cv, .slice As ns cs, .slice Aw nw cw] from heap_alloc_new w _);have HC0 := hid (hC.below HB0.out);have HT := hid (ht.below HB0.out);have HTx := hid hx;have HTd := hid (show ∀ e w', TxPo cl cn R P K V S X w e w' ↔ _ from fun e w' => Iff.rfl);clear hC ht hx;unfold TxPo;by_cases hcl : cl < 1 ∨ 10 < cl
 · have HQ := hid (show (if cl < 1 ∨ 10 < cl then Ending.returned (.tuple #[.string ⟨#[]⟩, .int .i64 1]) else if badT cn R P K V S X = true then .returned (.tuple #[.string ⟨#[]⟩, .int .i64 1]) else if 262144 < (textL (cl - 1).toNat cn R P K V S X).length then .returned (.tuple #[.string ⟨#[]⟩, .int .i64 5]) else .returned (.tuple #[.string ⟨(textL (cl - 1).toNat cn R P K V S X).toArray⟩, .int .i64 0])) = Ending.returned (.tuple #[.string ⟨#[]⟩, .int .i64 1]) from if_pos hcl);rw [HQ.out];rcases hcl with h1 | h1
   · have q1 : decide (cl < 1) = true := by simpa using h1
     clear h1;go_enter Tryz.func43, Tryz.ntmps43;go_wp2_with fail;go_ret2;exact ⟨rfl, HB0.out⟩
   · have q1 : decide (cl < 1) = false := by simp; omega
     have q2 : decide (10 < cl) = true := by simpa using h1
     clear h1;go_enter Tryz.func43, Tryz.ntmps43;go_wp2_with fail;go_ret2;exact ⟨rfl, HB0.out⟩
 rw [if_neg hcl];obtain ⟨i, hi⟩ := Int.eq_ofNat_of_zero_le (show 0 ≤ cl - 1 by omega);have hi10 : i < 10 := by omega
 have hin : (cl - 1).toNat = i := by rw [hi]; rfl
 rw [hin];have hkw : IntKind.i64.wrap (i : Int) = (i : Int) := IntWalk.i64_in _ (by omega);have hi0 : (0 : Int) ≤ (i : Int) := by omega
 have hi1 : (i : Int) < 10 := by omega
 have q1 : decide (cl < 1) = false := by simp; omega
 have q2 : decide (10 < cl) = false := by simp; omega
 obtain ⟨Q, hQ⟩ : ∃ Q, Q = (if badT cn R P K V S X = true then Ending.returned (.tuple #[.string ⟨#[]⟩, .int .i64 1]) else if 262144 < (textL i cn R P K V S X).length then .returned (.tuple #[.string ⟨#[]⟩, .int .i64 5]) else .returned (.tuple #[.string ⟨(textL i cn R P K V S X).toArray⟩, .int .i64 0])) := ⟨_, rfl⟩;rw [← hQ];have HQ := hid hQ;clear hQ hcl hin HTd;go_enter Tryz.func43, Tryz.ntmps43;go_wp2_with fail;have hs0 : (w.alloc (.cells #[.int .i64 cl, .int .i64 cn, .slice Ar nr cr, .slice Ap np cp, .slice Ak nk ck, .slice Av nv cv, .slice As ns cs, .slice Aw nw cw] 31)).heap.size = w.heap.size + 1 := by simp
 generalize w.heap.size + 1 = wb at *;subst hs0;generalize w.alloc _ = w0 at *;obtain ⟨d0, d1, d2, d3, d4, d5, d6, d7⟩ := HCb0.out.cells;have HW0 := hid (Wr.new w0);have HA0 := hid (below_alloc w0 (.cells #[.pointer none, .slice none 0 0, .bool false] 149))
 go_upto_region 4 with (fail)
 clear d0 d1 d2 d3 d4 d5 d6 d7;have HS1 := hid HW0.out;have HB1 := hid HA0.out;clear HW0 HA0;generalize w0.alloc _ = w1 at *;have hws := wordS_len i;have hcat : ¬ 9223372036854775807 < 6 + (wordS i).size := by omega
 have hbd : Below w1.heap.size w1 w1.drew := (Below.refl _ _).drew;have HB2 := hid (below_then HB1.out hbd);have HS2 := hid (HS1.out.below hbd);have hS0 : w1.drew.cell? ⟨w.heap.size, 0, none⟩ = some (.int .i64 cl) := (HCb0.out.below HB2.out).cells.1;refine wp_region_held_drew (S := fun w' => w'.cell? ⟨w.heap.size, 0, none⟩ = some (.int .i64 cl)) (by kernel_rfl) hS0 (fun hHeld => ?_);clear hS0 hbd HS1;generalize w1.drew = w2 at *;refine tkH 0 ?_;(try go_simp);refine tkH 2 ?_;(try go_simp);refine tkH 3 ?_;(try go_simp);refine tkH 4 ?_;(try go_simp);refine tkR 1 (fun K9 hK => ?_);go_simp;((refine (vwords_any w2).mono ?_); rintro e w3 ⟨rfl, ⟨o3, ho3, hc3⟩, hb3⟩)
 have hS9 := hHeld;refine hK.out _ _ (cell_stays hb3 hS9) (fun hHeld => ?_);clear hK K9;try go_simp
 have HS3 := hid (HS2.out.below hb3);have HB3 := hid (below_then HB2.out hb3);have hS8 : w3.cell? ⟨w2.heap.size, i, none⟩ = some (.string (wordS i)) ∧ w3.cell? ⟨w.heap.size, 0, none⟩ = some (.int .i64 cl) ∧ Hid (w3.heap[w2.heap.size]? = some (.cells o3 9 (0, 0))) := ⟨by rw [Lib.cell_of_heap ho3]; exact hc3 i hi10, hHeld, hid ho3⟩;have HO3 := hid (hc3 i hi10);have HW2 := hid HS2.out.lt;clear hHeld hS9 hc3 hb3 HS2 ho3;refine wpAnyH_mono (S' := fun w' => w'.cell? ⟨w2.heap.size, i, none⟩ = some (.string (wordS i)) ∧ w'.cell? ⟨w.heap.size, 0, none⟩ = some (.int .i64 cl) ∧ Hid (w'.heap[w2.heap.size]? = some (.cells o3 9 (0, 0)))) (fun _ h => h.2.1) _ _ _ _ ?_;have hHeld := hS8;clear hS8;refine tkH 5 ?_;(try go_simp);refine tkH 6 ?_;(try go_simp);refine tkH 7 ?_;(try go_simp);refine tkR 8 (fun K9 hK => ?_);go_simp;have HCl := hid (wline_any w0.heap.size w0.heap.size [] false (⟨#[99, 108, 97, 105, 109, 32]⟩ ++ wordS i) none 0 0 [] w3 HS3.out HB3.out.size (Nat.le_refl _) (fun w' hb ho => zin_empty) rfl (by decide) (fun x hx => by simp at hx) (by have := wordS_len i; rw [ByteArray.size_append]; show 0 + (6 + _) ≤ _; omega) (fun w' hb => HT.out.below (HB3.out.trans hb)));((refine HCl.out.mono ?_); rintro e w4 ⟨rfl, hW1, hB4, hO4⟩)
 have HB4 := hid (HB3.out.trans hB4);have hS7 := hHeld;have hh4 : w4.heap[w2.heap.size]? = some (.cells o3 9 (0, 0)) := hO4 _ _ hS7.2.2.out (by intro e; have h1 : w2.heap.size = w0.heap.size := (by injection e); have h2 := HW2.out; omega) (fun c fz h => by injection h with _ h2 _; exact absurd h2 (by decide));refine hK.out _ _ ⟨by rw [Lib.cell_of_heap hh4]; exact HO3.out, (HCb0.out.below HB4.out).cells.1, hid hh4⟩ (fun hHeld => ?_);clear hK K9 hS7 hO4 hB4 HCl hh4;try go_simp
 refine wpAnyH_done (by kernel_rfl) ?_ _;clear hHeld;have hT1 : ∃ T, T = [] ++ lineL ((⟨#[99, 108, 97, 105, 109, 32]⟩ : ByteArray) ++ wordS i).data.toList [] := ⟨_, rfl⟩;obtain ⟨T1, hT1⟩ := hT1;have hb1 : ∃ b, b = (false || ([] : List Int).any bigI) := ⟨_, rfl⟩;obtain ⟨bd1, hb1⟩ := hb1;rw [← hT1, ← hb1] at hW1;have HLn1 := hid (show T1.length ≤ 100 by
  have h1 := wordS_len i;have h2 : ((⟨#[99, 108, 97, 105, 109, 32]⟩ : ByteArray) ++ wordS i).data.toList.length = 6 + (wordS i).size := by
   rw [len_byte, ByteArray.size_append]; rfl
  rw [hT1];unfold lineL;rw [List.length_append, List.length_append, h2];show 0 + (6 + _ + (0 + 1)) ≤ _;omega)
 have HTe1 := hid (show T1 = lineL (headL i) [] by rw [hT1]; rfl);have HBe1 := hid hb1;have HS1 := hid hW1;have HB1 := HB4;obtain ⟨w1, rfl⟩ : ∃ x, x = w4 := ⟨_, rfl⟩;clear hW1 hT1 hb1 HB4;obtain ⟨d0, d1, d2, d3, d4, d5, d6, d7⟩ := (HCb0.out.below HB1.out).cells;have hwl := HS1.out.lt;have HAl := hid (below_alloc w1 (.cells #[.int .i64 cn] 3));have HS2 := hid (HS1.out.below HAl.out);have HB2 := hid (HB1.out.trans (HAl.out.mono HB1.out.size));have hcn64 : i64s [cn] := by intro x hx; simp at hx; rw [hx]; exact HTx.out.cn
 have HI64 := hid hcn64;have HCl := hid (wline_any w0.heap.size w0.heap.size T1 bd1 ⟨#[110, 117, 109, 98, 101, 114]⟩ (some ⟨w1.heap.size, 0, none⟩) 1 1 [cn] (w1.alloc (.cells #[.int .i64 cn] 3)) HS2.out HB2.out.size (Nat.le_refl _) (fun w' hb ho => zlit_kept [cn] w0.heap.size hwl ho) rfl (by decide) hcn64 (by have := HLn1.out; show T1.length + 6 ≤ _; omega) (fun w' hb => HT.out.below (HB2.out.trans hb)));clear hcn64;go_wp2_with fail;((with_reducible refine HCl.out.mono ?_); rintro e w3 ⟨rfl, hW3, hB3, _⟩)
 have HB3 := hid (HB2.out.trans hB3);clear hB3 HCl HS2 HB2;clear d0 d1 d2 d3 d4 d5 d6 d7;have HLn2 := HLn1;have HS2 := HS1;obtain ⟨T2, hT2⟩ : ∃ T2, T2 = T1 := ⟨_, rfl⟩;obtain ⟨bd2, hb2⟩ : ∃ bd2, bd2 = bd1 := ⟨_, rfl⟩;rw [← hT2] at HLn2;rw [← hT2, ← hb2] at hW3;have hT3 : ∃ T, T = T2 ++ lineL (⟨#[110, 117, 109, 98, 101, 114]⟩ : ByteArray).data.toList [cn] := ⟨_, rfl⟩;obtain ⟨T3, hT3⟩ := hT3;have hb3 : ∃ T, T = (bd2 || [cn].any bigI) := ⟨_, rfl⟩;obtain ⟨bd3, hb3⟩ := hb3;rw [← hT3, ← hb3] at hW3;have HLn3 := hid (show T3.length ≤ 200 by
  have h1 := HLn2.out;have h2 := lineL_len (⟨#[110, 117, 109, 98, 101, 114]⟩ : ByteArray).data.toList [cn] HI64.out;have h3 : (⟨#[110, 117, 109, 98, 101, 114]⟩ : ByteArray).data.toList.length = 6 := rfl;have h4 : [cn].length ≤ 1 := by first | exact Nat.le_refl _ | decide | exact HTx.out.r.2 | exact HTx.out.p.2
  rw [hT3, List.length_append];omega)
 have HTe3 := hid hT3;have HBe3 := hid hb3;have HS3 := hid hW3;clear hW3 hT3 hb3 HS2;rw [hT2] at HTe3;rw [hb2] at HBe3;clear hT2 hb2 HS1;have HCl := hid (wline_any w0.heap.size w0.heap.size T3 bd3 ⟨#[114, 117, 110]⟩ Ar nr cr R w3 HS3.out HB3.out.size (Nat.le_refl _) (fun w' hb ho => HC0.out.r.below (HB3.out.trans hb)) HC0.out.rl (by have := HTx.out.r.2; have := HC0.out.rl; omega) HTx.out.r.1 (by have := HLn3.out; show T3.length + 3 ≤ _; omega) (fun w' hb => HT.out.below (HB3.out.trans hb)));obtain ⟨d0, d1, d2, d3, d4, d5, d6, d7⟩ := (HCb0.out.below HB3.out).cells;go_wp2_with fail;((with_reducible refine HCl.out.mono ?_); rintro e w4 ⟨rfl, hW4, hB4, _⟩)
 have HB4 := hid (HB3.out.trans hB4);clear hB4 HCl;clear d0 d1 d2 d3 d4 d5 d6 d7;have hT4 : ∃ T, T = T3 ++ lineL (⟨#[114, 117, 110]⟩ : ByteArray).data.toList R := ⟨_, rfl⟩;obtain ⟨T4, hT4⟩ := hT4;have hb4 : ∃ T, T = (bd3 || R.any bigI) := ⟨_, rfl⟩;obtain ⟨bd4, hb4⟩ := hb4;rw [← hT4, ← hb4] at hW4;have HLn4 := hid (show T4.length ≤ 30200 by
  have h1 := HLn3.out;have h2 := lineL_len (⟨#[114, 117, 110]⟩ : ByteArray).data.toList R HTx.out.r.1;have h3 : (⟨#[114, 117, 110]⟩ : ByteArray).data.toList.length = 3 := rfl;have h4 : R.length ≤ 1000 := by first | exact Nat.le_refl _ | decide | exact HTx.out.r.2 | exact HTx.out.p.2
  rw [hT4, List.length_append];omega)
 have HTe4 := hid hT4;have HBe4 := hid hb4;have HS4 := hid hW4;clear hW4 hT4 hb4 HS3;have HCl := hid (wline_any w0.heap.size w0.heap.size T4 bd4 ⟨#[112, 117, 109, 112]⟩ Ap np cp P w4 HS4.out HB4.out.size (Nat.le_refl _) (fun w' hb ho => HC0.out.p.below (HB4.out.trans hb)) HC0.out.pl (by have := HTx.out.p.2; have := HC0.out.pl; omega) HTx.out.p.1 (by have := HLn4.out; show T4.length + 4 ≤ _; omega) (fun w' hb => HT.out.below (HB4.out.trans hb)));obtain ⟨d0, d1, d2, d3, d4, d5, d6, d7⟩ := (HCb0.out.below HB4.out).cells;go_wp2_with fail;((with_reducible refine HCl.out.mono ?_); rintro e w5 ⟨rfl, hW5, hB5, _⟩)
 have HB5 := hid (HB4.out.trans hB5);clear hB5 HCl;clear d0 d1 d2 d3 d4 d5 d6 d7;have hT5 : ∃ T, T = T4 ++ lineL (⟨#[112, 117, 109, 112]⟩ : ByteArray).data.toList P := ⟨_, rfl⟩;obtain ⟨T5, hT5⟩ := hT5;have hb5 : ∃ T, T = (bd4 || P.any bigI) := ⟨_, rfl⟩;obtain ⟨bd5, hb5⟩ := hb5;rw [← hT5, ← hb5] at hW5;have HLn5 := hid (show T5.length ≤ 60200 by
  have h1 := HLn4.out;have h2 := lineL_len (⟨#[112, 117, 109, 112]⟩ : ByteArray).data.toList P HTx.out.p.1;have h3 : (⟨#[112, 117, 109, 112]⟩ : ByteArray).data.toList.length = 4 := rfl;have h4 : P.length ≤ 1000 := by first | exact Nat.le_refl _ | decide | exact HTx.out.r.2 | exact HTx.out.p.2
  rw [hT5, List.length_append];omega)
 have HTe5 := hid hT5;have HBe5 := hid hb5;have HS5 := hid hW5;clear hW5 hT5 hb5 HS4;have HCl := hid (wlines_any w0 w0.heap.size 1000 T5 bd5 ⟨#[109, 97, 114, 107]⟩ Ak nk ck K w5 HS5.out HB5.out (Nat.le_refl _) HC0.out.k HC0.out.kl (by have := HTx.out.k.1; have := HC0.out.kl; omega) (Nat.le_refl _) HTx.out.k.2 (by show 4 ≤ _; decide) (by have := HLn5.out; omega) HT.out);obtain ⟨d0, d1, d2, d3, d4, d5, d6, d7⟩ := (HCb0.out.below HB5.out).cells;go_wp2_with fail;((with_reducible refine HCl.out.mono ?_); rintro e w6 ⟨rfl, hW6, hB6⟩)
 have HB6 := hid hB6;clear hB6 HCl;clear d0 d1 d2 d3 d4 d5 d6 d7;have hT6 : ∃ T, T = T5 ++ linesL (⟨#[109, 97, 114, 107]⟩ : ByteArray).data.toList K := ⟨_, rfl⟩;obtain ⟨T6, hT6⟩ := hT6;have hb6 : ∃ T, T = (bd5 || K.any fun l => l.any bigI) := ⟨_, rfl⟩;obtain ⟨bd6, hb6⟩ := hb6;rw [← hT6, ← hb6] at hW6;have HLn6 := hid (show T6.length ≤ 24060200 by
  have h1 := HLn5.out;have h2 := lines_len (⟨#[109, 97, 114, 107]⟩ : ByteArray).data.toList 1000 K HTx.out.k.2;have h3 : (⟨#[109, 97, 114, 107]⟩ : ByteArray).data.toList.length = 4 := rfl;have h4 := HTx.out.k.1;have h5 : K.length * ((⟨#[109, 97, 114, 107]⟩ : ByteArray).data.toList.length + 22 * 1000 + 1) ≤ 1000 * 23001 := Nat.mul_le_mul h4 (by rw [h3]; decide);rw [hT6, List.length_append];omega)
 have HTe6 := hid hT6;have HBe6 := hid hb6;have HS6 := hid hW6;clear hW6 hT6 hb6 HS5;obtain ⟨d0, d1, d2, d3, d4, d5, d6, d7⟩ := (HCb0.out.below HB6.out).cells;go_wp2_with fail;clear d0 d1 d2 d3 d4 d5 d6 d7;have HM6 := hid (show ∀ m ∈ V, mv64 m from HTx.out.v.2);go_loopg [46] (nv) (fun g iv wr => ∃ (k : Nat) (T : List UInt8) (bd : Bool), k + g = nv ∧ iv = .int .i64 (k : Int) ∧ T = T6 ++ movesL (V.take k) ∧ bd = (bd6 || (V.take k).any (fun m => (mvL m).any bigI)) ∧ Wr w0.heap.size w0.heap.size T bd wr ∧ Below w0.heap.size w0 wr);case atStart => exact ⟨0, T6, bd6, by omega, rfl, by simp [movesL], by simp, HS6.out, HB6.out⟩
 case round =>
  clear HS6 HB6;obtain ⟨k, Ta, bda, hk, rfl, hTa, hbda, hW1, hB1⟩ := hrel;obtain ⟨wa, rfl⟩ : ∃ wa, wa = wr := ⟨_, rfl⟩;have HK := hid hk;have HTa := hid hTa;have HBa := hid hbda;have HSa := hid hW1;have HBw := hid hB1;have hle : k ≤ nv := by omega
  clear hk hTa hbda hW1 hB1;by_cases hlt : k < nv
  · have hlt' : k < V.length := by rw [HC0.out.vl]; exact hlt
    have hnvb := HC0.out.vb;obtain ⟨av, rfl, hpv, m0', m1', m2'⟩ := mv_at HC0.out.v hlt';have m0 := cell_stays HBw.out m0';have m1 := cell_stays HBw.out m1';have m2 := cell_stays HBw.out m2';have HE := hid (vmoves_snoc V k hlt');have HAn := hid (any_mvs V k hlt');have HMe := hid (show moveL V[k] = lineL (⟨#[109, 111, 118, 101]⟩ : ByteArray).data.toList [V[k].f, V[k].t, V[k].s] ∧ mvL V[k] = [V[k].f, V[k].t, V[k].s] ∧ i64s [V[k].f, V[k].t, V[k].s] from ⟨rfl, rfl, HM6.out _ (List.getElem_mem hlt')⟩);have hml := moves_len (V.take k) (fun m hm => HM6.out m (List.mem_of_mem_take hm));have hlk : (V.take k).length = k := by rw [List.length_take]; omega
    rw [hlk] at hml;have HTl := hid (show Ta.length ≤ 24060200 + 71000 by
     have h1 := HLn6.out;have h2 := HTx.out.v.1;have h3 := HC0.out.vl;rw [HTa.out, List.length_append]; omega)
    generalize V[k].f = xf at *;generalize V[k].t = xt at *;generalize V[k].s = xs at *;have HA1 := hid (below_alloc wa (.cells #[.int .i64 xf, .int .i64 xt, .int .i64 xs] 113));clear m0' m1' m2' hml hlk
    go_upto_region 12 with (fail)
    clear m0 m1 m2;have HMb := hid (show MvB _ wa.heap.size xf xt xs from heap_alloc_new wa (.cells #[.int .i64 xf, .int .i64 xt, .int .i64 xs] 113));have HSb := hid (HSa.out.below HA1.out);have HBb := hid (HBw.out.trans (HA1.out.mono HBw.out.size));obtain ⟨tb, htb⟩ : ∃ tb, wa.heap.size = tb := ⟨_, rfl⟩;rw [htb] at HMb;simp only [htb];clear htb HA1 HSa HBw;generalize wa.alloc _ = wb at *;obtain ⟨e0, e1, e2⟩ := HMb.out.cells3;have hwl := HSb.out.lt;have HAl := hid (below_alloc wb (.cells #[.int .i64 xf, .int .i64 xt, .int .i64 xs] 3));have HSc := hid (HSb.out.below HAl.out);have HBc := hid (HBb.out.trans (HAl.out.mono HBb.out.size));have HCl := hid (wline_any w0.heap.size w0.heap.size Ta bda ⟨#[109, 111, 118, 101]⟩ (some ⟨wb.heap.size, 0, none⟩) 3 3 [xf, xt, xs] (wb.alloc (.cells #[.int .i64 xf, .int .i64 xt, .int .i64 xs] 3)) HSc.out HBc.out.size (Nat.le_refl _) (fun w' hb ho => zlit_kept [xf, xt, xs] w0.heap.size hwl ho) rfl (by decide) HMe.out.2.2 (by have := HTl.out; show Ta.length + 4 ≤ _; omega) (fun w' hb => HT.out.below (HBc.out.trans hb)));go_wp2_with fail;((with_reducible refine HCl.out.mono ?_); rintro e wc ⟨rfl, hWc, hBc, _⟩)
    have HSd := hid hWc;have HBd := hid (HBc.out.trans hBc);clear hWc hBc HCl e0 e1 e2 HSc HBc;go_wp2_with fail;go_roundg (gk - 1);case measure => have := HK.out; omega
    case rel => exact ⟨k + 1, _, _, by have := HK.out; omega, by go_num, by rw [HTa.out, HE.out, HMe.out.1]; simp, by rw [HBa.out, HAn.out, HMe.out.2.1, Bool.or_assoc], HSd.out, HBd.out⟩
  · have HX := hid (show V.take k = V from List.take_of_length_le (by rw [HC0.out.vl]; omega));rw [HX.out] at HTa HBa;obtain ⟨w7, rfl⟩ : ∃ w7, w7 = wa := ⟨_, rfl⟩;have HLn7 := hid (show Ta.length ≤ 24160199 by
     have h1 := HLn6.out;have h2 := moves_len V HM6.out;have h3 := HTx.out.v.1;rw [HTa.out, List.length_append]; omega)
    have HS7 := HSa;have HB7 := HBw;obtain ⟨T7, rfl⟩ : ∃ T7, T7 = Ta := ⟨_, rfl⟩;obtain ⟨bd7, rfl⟩ : ∃ bd7, bd7 = bda := ⟨_, rfl⟩;have HTe7 := HTa;have HBe7 := HBa;clear HSa HBw HTa HBa HK;have HCl := hid (wlines_any w0 w0.heap.size 1000 T7 bd7 ⟨#[115, 101, 116]⟩ As ns cs S w7 HS7.out HB7.out (Nat.le_refl _) HC0.out.s HC0.out.sl (by have := HTx.out.s.1; have := HC0.out.sl; omega) (Nat.le_refl _) HTx.out.s.2 (by show 3 ≤ _; decide) (by have := HLn7.out; omega) HT.out);obtain ⟨d0, d1, d2, d3, d4, d5, d6, d7⟩ := (HCb0.out.below HB7.out).cells;go_wp2_with fail;((with_reducible refine HCl.out.mono ?_); rintro e w8 ⟨rfl, hW8, hB8⟩)
    have HB8 := hid hB8;clear hB8 HCl;clear d0 d1 d2 d3 d4 d5 d6 d7;have hT8 : ∃ T, T = T7 ++ linesL (⟨#[115, 101, 116]⟩ : ByteArray).data.toList S := ⟨_, rfl⟩;obtain ⟨T8, hT8⟩ := hT8;have hb8 : ∃ T, T = (bd7 || S.any fun l => l.any bigI) := ⟨_, rfl⟩;obtain ⟨bd8, hb8⟩ := hb8;rw [← hT8, ← hb8] at hW8;have HLn8 := hid (show T8.length ≤ 48160200 by
     have h1 := HLn7.out;have h2 := lines_len (⟨#[115, 101, 116]⟩ : ByteArray).data.toList 1000 S HTx.out.s.2;have h3 : (⟨#[115, 101, 116]⟩ : ByteArray).data.toList.length = 3 := rfl;have h4 := HTx.out.s.1;have h5 : S.length * ((⟨#[115, 101, 116]⟩ : ByteArray).data.toList.length + 22 * 1000 + 1) ≤ 1000 * 23001 := Nat.mul_le_mul h4 (by rw [h3]; decide);rw [hT8, List.length_append];omega)
    have HTe8 := hid hT8;have HBe8 := hid hb8;have HS8 := hid hW8;clear hW8 hT8 hb8 HS7;have HCl := hid (wlines_any w0 w0.heap.size 1000 T8 bd8 ⟨#[114, 111, 119]⟩ Aw nw cw X w8 HS8.out HB8.out (Nat.le_refl _) HC0.out.x HC0.out.xl (by have := HTx.out.x.1; have := HC0.out.xl; omega) (Nat.le_refl _) HTx.out.x.2 (by show 3 ≤ _; decide) (by have := HLn8.out; omega) HT.out);obtain ⟨d0, d1, d2, d3, d4, d5, d6, d7⟩ := (HCb0.out.below HB8.out).cells;go_wp2_with fail;((with_reducible refine HCl.out.mono ?_); rintro e w9 ⟨rfl, hW9, hB9⟩)
    have HB9 := hid hB9;clear hB9 HCl;clear d0 d1 d2 d3 d4 d5 d6 d7;have hT9 : ∃ T, T = T8 ++ linesL (⟨#[114, 111, 119]⟩ : ByteArray).data.toList X := ⟨_, rfl⟩;obtain ⟨T9, hT9⟩ := hT9;have hb9 : ∃ T, T = (bd8 || X.any fun l => l.any bigI) := ⟨_, rfl⟩;obtain ⟨bd9, hb9⟩ := hb9;rw [← hT9, ← hb9] at hW9;have HLn9 := hid (show T9.length ≤ 72160200 by
     have h1 := HLn8.out;have h2 := lines_len (⟨#[114, 111, 119]⟩ : ByteArray).data.toList 1000 X HTx.out.x.2;have h3 : (⟨#[114, 111, 119]⟩ : ByteArray).data.toList.length = 3 := rfl;have h4 := HTx.out.x.1;have h5 : X.length * ((⟨#[114, 111, 119]⟩ : ByteArray).data.toList.length + 22 * 1000 + 1) ≤ 1000 * 23001 := Nat.mul_le_mul h4 (by rw [h3]; decide);rw [hT9, List.length_append];omega)
    have HTe9 := hid hT9;have HBe9 := hid hb9;have HS9 := hid hW9;clear hW9 hT9 hb9 HS8;have hall : textL i cn R P K V S X = T9 := by rw [HTe9.out, HTe8.out, HTe7.out, HTe6.out, HTe5.out, HTe4.out, HTe3.out, HTe1.out]; rfl
    have hbal : badT cn R P K V S X = bd9 := by rw [HBe9.out, HBe8.out, HBe7.out, HBe6.out, HBe5.out, HBe4.out, HBe3.out, HBe1.out]; rfl
    rw [hall, hbal] at HQ;have HNe := hid (show T9 ≠ [] by
     rw [← hall];unfold textL lineL;simp)
    clear hall hbal;obtain ⟨m0, m1⟩ := HS9.out.bad;cases bd9 with
    | true =>
     go_wp2_with fail;go_ret2;exact ⟨by rw [HQ.out]; rfl, HB0.out.trans (HB9.out.mono HB0.out.size)⟩
    | false =>
     have HLe := hid (wLen_any w0.heap.size w0.heap.size T9 false w9 HS9.out);go_wp2_with fail;((with_reducible refine HLe.out.mono ?_); rintro e w10 ⟨rfl, rfl⟩)
     by_cases hlg : 262144 < T9.length
     · have q1 : decide ((262144 : Int) < (T9.length : Int)) = true := by simp; omega
       have q2 : decide (262144 < T9.length) = true := by simp; omega
       go_wp2_with fail;go_ret2;exact ⟨by rw [HQ.out, if_neg (by simp), if_pos hlg]; rfl, HB0.out.trans (HB9.out.mono HB0.out.size)⟩
     · have q1 : decide ((262144 : Int) < (T9.length : Int)) = false := by simp; omega
       have q2 : decide (262144 < T9.length) = false := by simp; omega
       have HTx2 := hid (wText_any w0.heap.size w0.heap.size T9 false _ HS9.out HNe.out);go_wp2_with fail;((with_reducible refine HTx2.out.mono ?_); rintro e w11 ⟨rfl, hB11⟩)
       have HB11 := hid (HB9.out.trans hB11);go_wp2_with fail;go_ret2;exact ⟨by rw [HQ.out, if_neg (by simp), if_neg hlg]; rfl, HB0.out.trans (HB11.out.mono HB0.out.size)⟩
end Go.Proofs.YtkhmngljpfibcaaGreatDoor
