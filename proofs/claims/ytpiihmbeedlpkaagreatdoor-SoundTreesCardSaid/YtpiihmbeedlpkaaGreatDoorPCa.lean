/- Rows of structs: of one's own, or read; in general (no program in sight). What the texts of nets share: bytes, worlds, rows, copies; IsName of both packages. -/
import Derived.Test.YtpiihmbeedlpkaaGreatDoorProg
import Derived.Laws.AppendOwn
import Derived.Laws.OwnMore
import Derived.Below
import Derived.WalkKit
import Derived.WalkSpells
import Derived.WalkLawsBesides
import Derived.Deep.QuietTactic
import Derived.BigQuiet
import Derived.Lib.Hide
import Derived.Outline
import Derived.IntWalk
import Derived.Deep.LoopGhost
import Derived.Deep.DeepCutAuto
import Derived.Deep.RegionLaw
import Derived.Deep.RegionHeld3
import Derived.Lib.QuietBelow
import Derived.Lib.BufferOwn
import Derived.Lib.LazyBuf
import Derived.Lib.AppendZerosOnto
import Derived.Lib.AppendZeros
import Derived.Laws.NewBlocks
import Derived.Laws.CopyRow
namespace Go.Proofs.YtpiihmbeedlpkaaGreatDoor
open Go.Lib (hid)
section
open Go.RowKit

section
variable {α : Type} {c : α → List Value} {K : Nat}
theorem row_len (hK : ∀ x, (c x).length = K) (L : List α) : (L.flatMap c).length = L.length * K := by
 induction L with
 | nil => simp
 | cons a L ih => rw [List.flatMap_cons, List.length_append, ih, hK, List.length_cons, Nat.add_mul, Nat.one_mul, Nat.add_comm]
theorem row_at (hK : ∀ x, (c x).length = K) (L : List α) : ∀ (i j : Nat) (h : i < L.length), j < K → (L.flatMap c)[i * K + j]? = (c L[i])[j]? := by
 induction L with
 | nil => intro i j h; simp at h
 | cons a L ih =>
  intro i j h hj;have hl := hK a;cases i with
  | zero => rw [List.flatMap_cons, Nat.zero_mul, Nat.zero_add, List.getElem?_append_left (by omega)]; rfl
  | succ i =>
   have e : (i + 1) * K + j = K + (i * K + j) := by rw [Nat.add_mul]; omega
   rw [List.flatMap_cons, List.getElem?_append_right (by omega), hl, e, Nat.add_sub_cancel_left];exact ih i j (by simpa using h) hj
theorem add_at (ad : Addr) (m j : Nat) (h : 0 < j) : ad.add (m + j) = ⟨(ad.add m).block, (ad.add m).off + j, none⟩ := by
 unfold Addr.add;by_cases hi : m = 0
 · rw [if_neg (by omega), if_pos hi, hi, Nat.zero_add]
 · rw [if_neg (by omega), if_neg hi]; simp only [Nat.add_assoc]
theorem add_block (ad : Addr) (m : Nat) : (ad.add m).block = ad.block := by unfold Addr.add; split <;> rfl
/-- a slice of structs reads as a list -/
def Rd (c : α → List Value) (K : Nat) (w : World) (A : Option Addr) (L : List α) : Prop :=
 ∀ i (h : i < L.length), ∃ ad, A = some ad ∧ (ad.add (i * K)).block < w.heap.size ∧ ∀ j u, j < K → (c L[i])[j]? = some u → w.cell? (ad.add (i * K + j)) = some u
theorem Rd.below {w w' : World} {A : Option Addr} {L : List α} (h : Rd c K w A L) (hb : Below w.heap.size w w') : Rd c K w' A L := by
 intro i hi;obtain ⟨ad, e, h1, h2⟩ := h i hi;rw [add_block] at h1;refine ⟨ad, e, by rw [add_block]; have := hb.size; omega, fun j u hj hu => ?_⟩;rw [hb.cell (by rw [add_block]; exact h1)];exact h2 j u hj hu
theorem Rd.news (hK : ∀ x, (c x).length = K) (h0 : 0 < K) {w : World} {ad : Addr} {L : List α} (h : Rd c K w (some ad) L) : ∀ j u, (L.flatMap c)[j]? = some u → w.cell? (ad.add j) = some u := by
 intro j u hj;have hlt : j < L.length * K := by
  rcases Nat.lt_or_ge j (L.length * K) with h1 | h1
  · exact h1
  · rw [List.getElem?_eq_none (by rw [row_len hK]; exact h1)] at hj; cases hj
 have hk : j / K < L.length := Nat.div_lt_of_lt_mul (by rw [Nat.mul_comm]; exact hlt);have e : j = j / K * K + j % K := by rw [Nat.mul_comm]; exact (Nat.div_add_mod j K).symm
 obtain ⟨ad', hA, _, hc⟩ := h (j / K) hk;cases hA;rw [e, row_at hK L (j / K) (j % K) hk (Nat.mod_lt _ h0)] at hj;rw [e];exact hc _ u (Nat.mod_lt _ h0) hj
/-- a row of one's own is a slice that is read -/
theorem own_rd (hK : ∀ x, (c x).length = K) {w : World} {b n : Nat} {T : TypeId} {v : Value} {L : List α} (h0 : 0 < K) (h : w.ownsRow b T K v n (L.flatMap c)) :
 ∃ A cap, v = .slice A n cap ∧ L.length = n ∧ n ≤ cap ∧ cap ≤ 9223372036854775807 ∧ Rd c K w A L ∧ (0 < n → ∃ g, A = some ⟨g, 0, none⟩ ∧ b ≤ g ∧ g < w.heap.size) := by
 have hl := h.1;rw [row_len hK] at hl;have hln : L.length = n := Nat.eq_of_mul_eq_mul_right h0 hl;rcases h.2 with ⟨hv, hn⟩ | ⟨g, cap, cur, hv, hg, hh, hnc, hc, _⟩
 · refine ⟨none, 0, by rw [hv, hn], hln, by omega, by omega, fun i hi => ?_, fun h => ?_⟩
   · omega
   · omega
 · subst hv;have hgl : g < w.heap.size := (Array.getElem?_eq_some_iff.1 hh).1;refine ⟨some ⟨g, 0, none⟩, cap, rfl, hln, hnc, hc, fun i hi => ⟨_, rfl, by rw [add_block]; exact hgl, fun j u hj hu => ?_⟩, fun _ => ⟨g, rfl, hg, hgl⟩⟩;exact h.cells (g := g) rfl (i * K + j) u (by rw [row_at hK L i j hi hj]; exact hu)
theorem row_one (hone : ∀ x, ∀ u ∈ c x, u.oneCell' = true) (L : List α) : ∀ u ∈ L.flatMap c, u.oneCell' = true := by
 intro u hu;obtain ⟨x, _, hx⟩ := List.mem_flatMap.1 hu;exact hone x u hx
end
end
section
open Go.RowKit

/-- a byte is a decimal digit -/
def isDig (c : UInt8) : Bool := decide (48 ≤ c.toNat ∧ c.toNat ≤ 57)
/-- a byte is a letter -/
def isLet (c : UInt8) : Bool := decide ((65 ≤ c.toNat ∧ c.toNat ≤ 90) ∨ (97 ≤ c.toNat ∧ c.toNat ≤ 122))
/-- a byte may stand in a name -/
def isNm (c : UInt8) : Bool := isLet c || isDig c || decide (c.toNat = 95 ∨ c.toNat = 45 ∨ c.toNat = 46)
theorem ret_int {k : IntKind} {a b : Int} (h : a = b) : Ending.returned (.int k a) = .returned (.int k b) := by rw [h]
theorem ret_bool {a b : Bool} (h : a = b) : Ending.returned (.bool a) = .returned (.bool b) := by rw [h]
theorem ret_str {a b : ByteArray} (h : a = b) : Ending.returned (.string a) = .returned (.string b) := by rw [h]
theorem below_alloc (w : World) (o : Obj) : Below w.heap.size w (w.alloc o) := (Below.refl _ _).alloc (Nat.le_refl _) o
theorem below_then {a b c : World} (h : Below a.heap.size a b) (k : Below b.heap.size b c) : Below a.heap.size a c := h.trans (k.mono h.size)
theorem at_byte (s : ByteArray) (k : Nat) (h : k < s.size) : s.data.toList[k]? = some s[k] := by
 rw [List.getElem?_eq_getElem (by simpa using h)]; rfl
theorem drop_byte (s : ByteArray) (k : Nat) (h : k < s.size) : s.data.toList.drop k = s[k] :: s.data.toList.drop (k + 1) := by
 rw [List.drop_eq_getElem_cons (by simpa using h)]; rfl
theorem take_byte (s : ByteArray) (k : Nat) (h : k < s.size) : s.data.toList.take (k + 1) = s.data.toList.take k ++ [s[k]] := by
 rw [List.take_succ_eq_append_getElem (by simpa using h)]; rfl
theorem len_byte (s : ByteArray) : s.data.toList.length = s.size := by simp
/-- five stretches of a byte's numbers -/
theorem let_parts (c : UInt8) : (((c.toNat : Int) < 65) ∧ isLet c = false) ∨ ((65 ≤ (c.toNat : Int) ∧ (c.toNat : Int) ≤ 90) ∧ isLet c = true) ∨ ((90 < (c.toNat : Int) ∧ (c.toNat : Int) < 97) ∧ isLet c = false) ∨ ((97 ≤ (c.toNat : Int) ∧ (c.toNat : Int) ≤ 122) ∧ isLet c = true) ∨ ((122 < (c.toNat : Int)) ∧ isLet c = false) := by
 unfold isLet;simp only [decide_eq_true_eq, decide_eq_false_iff_not];omega
theorem dig_parts (c : UInt8) : (((c.toNat : Int) < 48) ∧ isDig c = false) ∨ ((48 ≤ (c.toNat : Int) ∧ (c.toNat : Int) ≤ 57) ∧ isDig c = true) ∨ ((57 < (c.toNat : Int)) ∧ isDig c = false) := by
 unfold isDig;simp only [decide_eq_true_eq, decide_eq_false_iff_not];omega
theorem nletter_any (c : UInt8) (w : World) : Calls Tryz.prog 70 #[.int .u8 (c.toNat : Int)] w fun e w' => e = .returned (.bool (isLet c)) ∧ w = w' := by
 rcases let_parts c with ⟨h, hv⟩ | ⟨⟨h, h'⟩, hv⟩ | ⟨⟨h, h'⟩, hv⟩ | ⟨⟨h, h'⟩, hv⟩ | ⟨h, hv⟩
 all_goals
  have HV := hid hv; clear hv;go_enter Tryz.func70, Tryz.ntmps70
  go_wp2
  go_ret;exact ⟨ret_bool (by have e := HV.out; first | exact e.symm | (rw [e]; simp; omega)), rfl⟩
theorem sletter_any (c : UInt8) (w : World) : Calls Tryz.prog 69 #[.int .u8 (c.toNat : Int)] w fun e w' => e = .returned (.bool (isLet c)) ∧ w = w' := by
 rcases let_parts c with ⟨h, hv⟩ | ⟨⟨h, h'⟩, hv⟩ | ⟨⟨h, h'⟩, hv⟩ | ⟨⟨h, h'⟩, hv⟩ | ⟨h, hv⟩
 all_goals
  have HV := hid hv; clear hv;go_enter Tryz.func69, Tryz.ntmps69
  go_wp2
  go_ret;exact ⟨ret_bool (by have e := HV.out; first | exact e.symm | (rw [e]; simp; omega)), rfl⟩
theorem nm_let (c : UInt8) (h : isLet c = true) : isNm c = true := by unfold isNm; rw [h]; rfl
theorem nm_dig (c : UInt8) (h : isDig c = true) : isNm c = true := by unfold isNm; rw [h]; simp
theorem nm_is (c : UInt8) (h : (c.toNat : Int) = 95 ∨ (c.toNat : Int) = 45 ∨ (c.toNat : Int) = 46) : isNm c = true := by unfold isNm; simp; omega
theorem nm_no (c : UInt8) (h1 : isLet c = false) (h2 : isDig c = false) (h : (c.toNat : Int) ≠ 95 ∧ (c.toNat : Int) ≠ 45 ∧ (c.toNat : Int) ≠ 46) : isNm c = false := by unfold isNm; rw [h1, h2]; simp; omega
theorem all_done (f : UInt8 → Bool) (s : ByteArray) (k : Nat) (h : ∀ x ∈ s.data.toList.take k, f x = true) (hk : s.size ≤ k) : s.data.toList.all f = true := by
 rw [List.take_of_length_le (by rw [len_byte]; exact hk)] at h;exact List.all_eq_true.2 h
theorem take_all (f : UInt8 → Bool) (s : ByteArray) (k : Nat) (h : ∀ x ∈ s.data.toList.take k, f x = true) (hk : k < s.size) (hf : f s[k] = true) : ∀ x ∈ s.data.toList.take (k + 1), f x = true := by
 intro x hx;rw [take_byte s k hk] at hx;rcases List.mem_append.1 hx with h1 | h1
 · exact h x h1
 · have : x = s[k] := by simpa using h1
   subst this; exact hf
theorem first_byte (s : ByteArray) (h : 0 < s.size) : s.data.toList = s[0] :: s.data.toList.drop 1 := by
 have := drop_byte s 0 h; rwa [List.drop_zero] at this
theorem own_stays {w w' : World} {b : Nat} {e : TypeId} {k : Nat} {v : Value} {n : Nat} {xs : List Value} (h : w.ownsRow b e k v n xs) (hb : Below w.heap.size w w') : w'.ownsRow b e k v n xs := by
 refine ⟨h.1, ?_⟩;rcases h.2 with hn | ⟨g, cap, cur, rfl, hbb, hg, rest⟩
 · exact .inl hn
 · refine .inr ⟨g, cap, cur, rfl, hbb, ?_, rest⟩;have hlt : g < w.heap.size := by
    rcases Nat.lt_or_ge g w.heap.size with h2 | h2
    · exact h2
    · rw [Array.getElem?_eq_none h2] at hg; cases hg
   rw [hb.block g hlt]; exact hg
theorem cell_stays {w w' : World} {a : Addr} {v : Value} (hb : Below w.heap.size w w') (h : w.cell? a = some v) : w'.cell? a = some v := by
 rw [hb.cell (block_lt_of_cell h)]; exact h
theorem grown_refl (w : World) (r : Option Nat) : w.grownBy w r := ⟨rfl, rfl, rfl, Nat.le_refl _, fun _ _ _ => rfl⟩
theorem below_drewN (w : World) (n : Nat) : Below w.heap.size w (w.drewN n) := ⟨rfl, rfl, rfl, Nat.le_refl _, fun _ _ => rfl⟩
/-- a text is a name -/
def isNameB (l : List UInt8) : Bool := match l with | [] => false | c :: _ => decide (l.length ≤ 40) && isLet c && l.all isNm
theorem isName_nil (s : ByteArray) (h : s.size = 0) : isNameB s.data.toList = false := by
 rw [show s.data.toList = [] from List.eq_nil_of_length_eq_zero (by rw [len_byte]; exact h)]; rfl
theorem isName_cons (s : ByteArray) (h : 0 < s.size) : isNameB s.data.toList = (decide (s.size ≤ 40) && isLet s[0] && s.data.toList.all isNm) := by
 have e := first_byte s h;have hl := len_byte s;generalize s.data.toList.drop 1 = r at e;rw [e] at hl ⊢;unfold isNameB;simp only [hl]
theorem isName_long (s : ByteArray) (h : 40 < s.size) : isNameB s.data.toList = false := by
 rw [isName_cons s (by omega), decide_eq_false (by omega)]; rfl
theorem isName_let (s : ByteArray) (h : 0 < s.size) (hL : isLet s[0] = false) : isNameB s.data.toList = false := by
 rw [isName_cons s h, hL]; simp
theorem isName_all (s : ByteArray) (h : 0 < s.size) (h4 : s.size ≤ 40) (hL : isLet s[0] = true) : isNameB s.data.toList = s.data.toList.all isNm := by
 rw [isName_cons s h, hL, decide_eq_true h4]; rfl
theorem all_stop' (f : UInt8 → Bool) (s : ByteArray) (k : Nat) (hk : k < s.size) (hf : f s[k] = false) : s.data.toList.all f = false := by
 rw [List.all_eq_false];exact ⟨s[k], List.mem_of_getElem? (at_byte s k hk), by simp [hf]⟩
set_option maxHeartbeats 800000 in
theorem npart_any (c : UInt8) (w : World) : Calls Tryz.prog 71 #[.int .u8 (c.toNat : Int)] w fun e w' => e = .returned (.bool (isNm c)) ∧ w = w' := by
 cases hL : isLet c
 · have HL := hid hL;rcases dig_parts c with ⟨d1, hD⟩ | ⟨⟨d1, d2⟩, hD⟩ | ⟨d1, hD⟩;rotate_left
   · have HV := hid (nm_dig c hD);clear hL hD;go_enter Tryz.func71, Tryz.ntmps71;go_wp2_with fail;((with_reducible refine (nletter_any c _).mono ?_); rintro e wn ⟨rfl, rfl⟩)
     rw [HL.out];go_wp2_with fail;go_ret;exact ⟨ret_bool HV.out.symm, rfl⟩
   all_goals
    first | (have d3 : decide ((c.toNat : Int) ≤ 57) = false := by (simp; omega)) | skip
    by_cases h95 : (c.toNat : Int) = 95
    · have HV := hid (nm_is c (.inl h95));have q1 : ((c.toNat : Int) == 95) = true := by rw [h95]; rfl
      clear h95 hL hD;go_enter Tryz.func71, Tryz.ntmps71;go_wp2_with fail;((with_reducible refine (nletter_any c _).mono ?_); rintro e wn ⟨rfl, rfl⟩)
      rw [HL.out];go_wp2_with fail;go_ret;exact ⟨ret_bool HV.out.symm, rfl⟩
    by_cases h45 : (c.toNat : Int) = 45
    · have HV := hid (nm_is c (.inr (.inl h45)));have q1 : ((c.toNat : Int) == 95) = false := by rw [h45]; rfl
      have q2 : ((c.toNat : Int) == 45) = true := by rw [h45]; rfl
      clear h95 h45 hL hD;go_enter Tryz.func71, Tryz.ntmps71;go_wp2_with fail;((with_reducible refine (nletter_any c _).mono ?_); rintro e wn ⟨rfl, rfl⟩)
      rw [HL.out];go_wp2_with fail;go_ret;exact ⟨ret_bool HV.out.symm, rfl⟩
    by_cases h46 : (c.toNat : Int) = 46
    · have HV := hid (nm_is c (.inr (.inr h46)));have q1 : ((c.toNat : Int) == 95) = false := by rw [h46]; rfl
      have q2 : ((c.toNat : Int) == 45) = false := by rw [h46]; rfl
      have q3 : ((c.toNat : Int) == 46) = true := by rw [h46]; rfl
      clear h95 h45 h46 hL hD;go_enter Tryz.func71, Tryz.ntmps71;go_wp2_with fail;((with_reducible refine (nletter_any c _).mono ?_); rintro e wn ⟨rfl, rfl⟩)
      rw [HL.out];go_wp2_with fail;go_ret;exact ⟨ret_bool HV.out.symm, rfl⟩
    · have HV := hid (nm_no c hL hD ⟨h95, h45, h46⟩);have q1 : ((c.toNat : Int) == 95) = false := by simp; omega
      have q2 : ((c.toNat : Int) == 45) = false := by simp; omega
      have q3 : ((c.toNat : Int) == 46) = false := by simp; omega
      clear h95 h45 h46 hL hD;go_enter Tryz.func71, Tryz.ntmps71;go_wp2_with fail;((with_reducible refine (nletter_any c _).mono ?_); rintro e wn ⟨rfl, rfl⟩)
      rw [HL.out];go_wp2_with fail;go_ret;exact ⟨ret_bool HV.out.symm, rfl⟩
 · have HL := hid hL;have HV := hid (nm_let c hL);clear hL;go_enter Tryz.func71, Tryz.ntmps71;go_wp2_with fail;((with_reducible refine (nletter_any c _).mono ?_); rintro e wn ⟨rfl, rfl⟩)
   rw [HL.out];go_wp2_with fail;go_ret;exact ⟨ret_bool HV.out.symm, rfl⟩
set_option maxHeartbeats 1600000 in
theorem nisName_any (s : ByteArray) (w : World) (hs : s.size ≤ 9223372036854775807) :
 Calls Tryz.prog 55 #[.string s] w fun e w' => e = .returned (.bool (isNameB s.data.toList)) ∧ w = w' := by
 by_cases h0 : s.size = 0
 · have HV := hid (isName_nil s h0);have q0 : (s.size : Int) < 1 := by omega
   go_enter Tryz.func55, Tryz.ntmps55;go_wp2_with fail;go_ret;exact ⟨ret_bool HV.out.symm, rfl⟩
 have hpos : 0 < s.size := by omega
 clear h0;by_cases h4 : 40 < s.size
 · have HV := hid (isName_long s h4);go_enter Tryz.func55, Tryz.ntmps55;go_wp2_with fail;go_ret;exact ⟨ret_bool HV.out.symm, rfl⟩
 have h40 : s.size ≤ 40 := by omega
 clear h4;cases hL : isLet s[0]
 · have HL := hid hL;have HV := hid (isName_let s hpos hL);clear hL;go_enter Tryz.func55, Tryz.ntmps55;go_wp2_with fail;((with_reducible refine (nletter_any s[0] _).mono ?_); rintro e wn ⟨rfl, rfl⟩)
   rw [HL.out];go_wp2_with fail;go_ret;exact ⟨ret_bool HV.out.symm, rfl⟩
 · have HL := hid hL;have HE := hid (isName_all s hpos h40 hL);clear hL;go_enter Tryz.func55, Tryz.ntmps55;go_wp2_with fail;((with_reducible refine (nletter_any s[0] _).mono ?_); rintro e wn ⟨rfl, rfl⟩)
   rw [HL.out];go_wp2_with fail;go_loopg [20] (s.size) (fun g i wr => ∃ k : Nat, k + g = s.size ∧ i = .int .i64 k ∧ (∀ x ∈ s.data.toList.take k, isNm x = true) ∧ w = wr);case atStart => exact ⟨0, by omega, rfl, by simp, rfl⟩
   case round =>
    obtain ⟨k, hk, rfl, hall, rfl⟩ := hrel;have HA := hid hall;have HK := hid hk;have hle : k ≤ s.size := by omega
    clear hall hk;by_cases hlt : k < s.size
    · cases hF : isNm s[k]
      · have HF := hid hF;have HV := hid (all_stop' isNm s k hlt hF);clear hF;go_wp2_with fail;((with_reducible refine (npart_any s[k] _).mono ?_); rintro e wn ⟨rfl, rfl⟩)
        rw [HF.out];go_wp2_with fail;go_ret;exact ⟨ret_bool (by rw [HE.out, HV.out]), rfl⟩
      · have HF := hid hF;have HN := hid (take_all isNm s k HA.out hlt hF);clear hF;go_wp2_with fail;((with_reducible refine (npart_any s[k] _).mono ?_); rintro e wn ⟨rfl, rfl⟩)
        rw [HF.out];go_wp2_with fail;go_roundg (gk - 1);case measure => have := HK.out; omega
        case rel => exact ⟨k + 1, by have := HK.out; omega, by go_num, HN.out, rfl⟩
    · have HV := hid (all_done isNm s k HA.out (by omega));go_wp2_with fail;go_ret;exact ⟨ret_bool (by rw [HE.out, HV.out]), rfl⟩
set_option maxHeartbeats 3200000 in
theorem sisName_any (s : ByteArray) (w : World) (hs : s.size ≤ 9223372036854775807) :
 Calls Tryz.prog 53 #[.string s] w fun e w' => e = .returned (.bool (isNameB s.data.toList)) ∧ w = w' := by
 by_cases h0 : s.size = 0
 · have HV := hid (isName_nil s h0);have q0 : (s.size : Int) < 1 := by omega
   go_enter Tryz.func53, Tryz.ntmps53;go_wp2_with fail;go_ret;exact ⟨ret_bool HV.out.symm, rfl⟩
 have hpos : 0 < s.size := by omega
 clear h0;by_cases h4 : 40 < s.size
 · have HV := hid (isName_long s h4);go_enter Tryz.func53, Tryz.ntmps53;go_wp2_with fail;go_ret;exact ⟨ret_bool HV.out.symm, rfl⟩
 have h40 : s.size ≤ 40 := by omega
 clear h4;cases hL : isLet s[0]
 · have HL := hid hL;have HV := hid (isName_let s hpos hL);clear hL;go_enter Tryz.func53, Tryz.ntmps53;go_wp2_with fail;((with_reducible refine (sletter_any s[0] _).mono ?_); rintro e wn ⟨rfl, rfl⟩)
   rw [HL.out];go_wp2_with fail;go_ret;exact ⟨ret_bool HV.out.symm, rfl⟩
 · have HL := hid hL;have HE := hid (isName_all s hpos h40 hL);have H0 := hid (take_all isNm s 0 (by simp) hpos (nm_let _ hL));clear hL;go_enter Tryz.func53, Tryz.ntmps53;go_wp2_with fail;((with_reducible refine (sletter_any s[0] _).mono ?_); rintro e wn ⟨rfl, rfl⟩)
   rw [HL.out];go_wp2_with fail;go_loopg [3] (s.size) (fun g i wr => ∃ k : Nat, k ≤ s.size ∧ s.size ≤ k + g ∧ i = .int .i64 k ∧ (∀ x ∈ s.data.toList.take k, isNm x = true) ∧ w = wr);case atStart => exact ⟨1, by omega, by omega, rfl, H0.out, rfl⟩
   case round =>
    obtain ⟨k, hk, hk2, rfl, hall, rfl⟩ := hrel;have HA := hid hall;clear hall;by_cases hlt : k < s.size
    · cases hL2 : isLet s[k]
      · have HL2 := hid hL2;rcases dig_parts s[k] with ⟨d1, hD⟩ | ⟨⟨d1, d2⟩, hD⟩ | ⟨d1, hD⟩;rotate_left
        · have HN := hid (take_all isNm s k HA.out hlt (nm_dig _ hD));clear hL2 hD;go_wp2_with fail;((with_reducible refine (sletter_any s[k] _).mono ?_); rintro e wn ⟨rfl, rfl⟩)
          rw [HL2.out];go_wp2_with fail;go_roundg (gk - 1);case measure => omega
          case rel => exact ⟨k + 1, by omega, by omega, by go_num, HN.out, rfl⟩
        all_goals
         first | (have d3 : decide ((s[k].toNat : Int) ≤ 57) = false := by (simp; omega)) | skip
         by_cases h95 : (s[k].toNat : Int) = 95
         · have HN := hid (take_all isNm s k HA.out hlt (nm_is _ (.inl h95)));have q1 : ((s[k].toNat : Int) != 95) = false := by rw [h95]; rfl
           clear h95 hL2 hD;go_wp2_with fail;((with_reducible refine (sletter_any s[k] _).mono ?_); rintro e wn ⟨rfl, rfl⟩)
           rw [HL2.out];go_wp2_with fail;go_roundg (gk - 1);case measure => omega
           case rel => exact ⟨k + 1, by omega, by omega, by go_num, HN.out, rfl⟩
         by_cases h45 : (s[k].toNat : Int) = 45
         · have HN := hid (take_all isNm s k HA.out hlt (nm_is _ (.inr (.inl h45))));have q1 : ((s[k].toNat : Int) != 95) = true := by rw [h45]; rfl
           have q2 : ((s[k].toNat : Int) != 45) = false := by rw [h45]; rfl
           clear h95 h45 hL2 hD;go_wp2_with fail;((with_reducible refine (sletter_any s[k] _).mono ?_); rintro e wn ⟨rfl, rfl⟩)
           rw [HL2.out];go_wp2_with fail;go_roundg (gk - 1);case measure => omega
           case rel => exact ⟨k + 1, by omega, by omega, by go_num, HN.out, rfl⟩
         by_cases h46 : (s[k].toNat : Int) = 46
         · have HN := hid (take_all isNm s k HA.out hlt (nm_is _ (.inr (.inr h46))));have q1 : ((s[k].toNat : Int) != 95) = true := by rw [h46]; rfl
           have q2 : ((s[k].toNat : Int) != 45) = true := by rw [h46]; rfl
           have q3 : ((s[k].toNat : Int) != 46) = false := by rw [h46]; rfl
           clear h95 h45 h46 hL2 hD;go_wp2_with fail;((with_reducible refine (sletter_any s[k] _).mono ?_); rintro e wn ⟨rfl, rfl⟩)
           rw [HL2.out];go_wp2_with fail;go_roundg (gk - 1);case measure => omega
           case rel => exact ⟨k + 1, by omega, by omega, by go_num, HN.out, rfl⟩
         · have HV := hid (all_stop' isNm s k hlt (nm_no _ hL2 hD ⟨h95, h45, h46⟩));have q1 : ((s[k].toNat : Int) != 95) = true := by simpa using h95
           have q2 : ((s[k].toNat : Int) != 45) = true := by simpa using h45
           have q3 : ((s[k].toNat : Int) != 46) = true := by simpa using h46
           clear h95 h45 h46 hL2 hD;go_wp2_with fail;((with_reducible refine (sletter_any s[k] _).mono ?_); rintro e wn ⟨rfl, rfl⟩)
           rw [HL2.out];go_wp2_with fail;go_ret;exact ⟨ret_bool (by rw [HE.out, HV.out]), rfl⟩
      · have HL2 := hid hL2;have HN := hid (take_all isNm s k HA.out hlt (nm_let _ hL2));clear hL2;go_wp2_with fail;((with_reducible refine (sletter_any s[k] _).mono ?_); rintro e wn ⟨rfl, rfl⟩)
        rw [HL2.out];go_wp2_with fail;go_roundg (gk - 1);case measure => omega
        case rel => exact ⟨k + 1, by omega, by omega, by go_num, HN.out, rfl⟩
    · have HV := hid (all_done isNm s k HA.out (by omega));go_wp2_with fail;go_ret;exact ⟨ret_bool (by rw [HE.out, HV.out]), rfl⟩
theorem drop_flat {α : Type} {c : α → List Value} {K : Nat} (hK : ∀ x, (c x).length = K) (L : List α) : ∀ i, (L.flatMap c).drop (i * K) = (L.drop i).flatMap c := by
 induction L with
 | nil => intro i; simp
 | cons a L ih =>
  intro i;cases i with
  | zero => simp
  | succ i =>
   rw [List.flatMap_cons, List.drop_succ_cons, ← ih i, show (i + 1) * K = (c a).length + i * K by rw [hK, Nat.add_mul, Nat.one_mul, Nat.add_comm], List.drop_length_add_append]
/-- an append at a step of a region that draws its order -/
theorem step_append_own {P : Program} {w : World} {ops : Array Oper} {o : Oper} {a : Act} {K : Act → World → Prop} {Q : Exit → Act → World → Prop} {E : Prop} (hgd : o.guard = none) (s x : Operand) (t : TypeId)
 (ho : o.op = .call { callee := .builtin .append, args := #[s, x], argTypes := #[t, t] })
 (base : Nat) (e : TypeId) (i : TypeInfo) (z : Value) (size bytes : Nat) (ht : P.underlying t = some (.slice e)) (hi : P.info? e = some i) (hz : i.zero = some z)
 (hsize : i.size = size) (hby : i.bytes = bytes) (hzs : z.cells.size = size) (hsz : 0 < size)
 (v : Value) (n : Nat) (xs : List Value) (hs : a.eval s = v) (hown : w.ownsRow base e size v n xs)
 (ad : Addr) (m c : Nat) (news : List Value) (hx : a.eval x = .slice (some ad) m c) (hl : news.length = m * size) (hnews : ∀ j u, news[j]? = some u → w.cell? (ad.add j) = some u) (h1 : ∀ u ∈ news, u.oneCell' = true)
 (h63 : n + m ≤ maxLen) (hbytes : (n + m) * bytes ≤ 140737488355328) (hbase : base ≤ w.heap.size)
 (h : ∀ v' w', w'.ownsRow base e size v' (n + m) (xs ++ news) → w.grownBy w' v.ownBlock → K (a.put o.dst v') w') :
 if Region.wanted o (yielded ops a.tmps) = true then Oper.wp P o a w K Q else E := by
 have hw : Region.wanted o (yielded ops a.tmps) = true := by simp [Region.wanted, hgd]
 rw [if_pos hw];exact wp_append_own w s x t ho base e i z size bytes ht hi hz hsize hby hzs hsz v n xs hs hown ad m c news hx hl hnews h1 h63 hbytes hbase fun v' w' h2 h3 _ => h v' w' h2 h3
theorem run_append_nils {P : Program} {w : World} {base : Nat} {t ty e : TypeId} {i : TypeInfo} {size : Nat} (ht : P.underlying t = some (.slice e)) (hi : P.info? e = some i)
 {v : Value} {n : Nat} {xs : List Value} (hown : w.ownsRow base e size v n xs) (c : Nat) : (Builtin.append_ #[t, t] ty #[v, .slice none 0 c]).run P w = .ok v w := by
 rcases hown.2 with ⟨rfl, rfl⟩ | ⟨g, cap, cur, rfl, _, _, hnc, _⟩
 · simp [Builtin.append_, run_underlying ht, sizeOf, typeInfo, hi, Builtin.lenOf, Builtin.firstCells]
 · simp [Builtin.append_, run_underlying ht, sizeOf, typeInfo, hi, Builtin.lenOf, Builtin.firstCells, hnc, storeCells]
/-- append of a list of structs that is read, nil let in, onto a row of one's own -/
theorem wpList_append_rd {P : Program} {α : Type} {cf : α → List Value} {K : Nat} (hK : ∀ x, (cf x).length = K) (hone : ∀ x, ∀ u ∈ cf x, u.oneCell' = true) (w : World) {ops : Array Oper} {rest : List Oper} {o : Oper} {a : Act} {Q : Exit → Act → World → Prop} (hgd : o.guard = none) (s x : Operand) (t : TypeId)
 (ho : o.op = .call { callee := .builtin .append, args := #[s, x], argTypes := #[t, t] })
 (base : Nat) (e : TypeId) (i : TypeInfo) (z : Value) (bytes : Nat) (ht : P.underlying t = some (.slice e)) (hi : P.info? e = some i) (hz : i.zero = some z)
 (hsize : i.size = K) (hby : i.bytes = bytes) (hzs : z.cells.size = K) (hsz : 0 < K)
 (v : Value) (n : Nat) (xs : List Value) (hs : a.eval s = v) (hown : w.ownsRow base e K v n xs)
 (A : Option Addr) (m c : Nat) (M : List α) (hx : a.eval x = .slice A m c) (hr : Rd cf K w A M) (hm : M.length = m)
 (h63 : n + m ≤ maxLen) (hbytes : (n + m) * bytes ≤ 140737488355328) (hbase : base ≤ w.heap.size)
 (h : ∀ v' w', w'.ownsRow base e K v' (n + m) (xs ++ M.flatMap cf) → w.grownBy w' v.ownBlock → wpList P ops Q rest (a.put o.dst v') w') : wpList P ops Q (o :: rest) a w := by
 cases A with
 | some ad => exact wpList_append_own w hgd s x t ho base e i z K bytes ht hi hz hsize hby hzs hsz v n xs hs hown ad m c (M.flatMap cf) hx (by rw [row_len hK, hm]) (Rd.news hK hsz hr) (row_one hone M) h63 hbytes hbase fun v' w' h2 h3 _ => h v' w' h2 h3
 | none =>
  have hM : M = [] := by
   cases M with
   | nil => rfl
   | cons y M => obtain ⟨ad, e, _⟩ := hr 0 (by simp); cases e
  subst hM;obtain rfl : m = 0 := hm.symm;refine wpList_plain hgd fun K' hK' => ?_
  unfold Oper.wp execOp;simp only [ho, resolve, invoke, builtin, Sem.run_bind, Sem.run_pure, Result.andThen_ok, List.map_toArray, List.map_cons, List.map_nil, hs, hx, run_append_nils ht hi hown c];exact hK' _ _ (h v w (by simpa using hown) ⟨rfl, rfl, rfl, Nat.le_refl _, fun _ _ _ => rfl⟩)
theorem two_boxes (w : World) (a b : Obj) : Below w.heap.size w ((w.alloc a).alloc b) := below_then (below_alloc w a) (below_alloc _ b)
end
end Go.Proofs.YtpiihmbeedlpkaaGreatDoor
