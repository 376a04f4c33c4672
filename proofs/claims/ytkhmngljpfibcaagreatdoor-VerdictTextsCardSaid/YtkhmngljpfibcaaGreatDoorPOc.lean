/- Certificates out of their text, plain: the reference's way; both ways give the same. -/
import Derived.Test.YtkhmngljpfibcaaGreatDoorPUu
import Derived.Test.YtkhmngljpfibcaaGreatDoorPOb
namespace Go.Proofs.YtkhmngljpfibcaaGreatDoor
open Go.RowKit

theorem ndig_le : ∀ (k u : Nat), u < 10 ^ (k + 1) → Lib.nDigits u ≤ k + 1
 | 0, u, h => by rw [Lib.nDigits_small (by simpa using h)]; exact Nat.le_refl _
 | k + 1, u, h => by
  by_cases h1 : u < 10
  · rw [Lib.nDigits_small h1]; omega
  · rw [Lib.nDigits_big h1];have := ndig_le k (u / 10) (by rw [Nat.pow_succ] at h; omega);omega
theorem itoa_short (x : Int) (h : -1048576 ≤ x ∧ x ≤ 1048576) : (Lib.itoa x).length ≤ 9 := by
 unfold Lib.itoa;split
 · have := ndig_le 6 x.natAbs (by omega);rw [List.length_cons, Lib.decDigits_length]; omega
 · have := ndig_le 6 x.toNat (by omega);rw [Lib.decDigits_length]; omega
def negB (s : List UInt8) : Bool := decide (s.head? = some 45)
def magR (s : List UInt8) : List UInt8 := if negB s then s.drop 1 else s
def numR (s : List UInt8) : Option Int :=
 if 9 < s.length then none else if (magR s).all isDig then some (if negB s then -(dval (magR s) : Int) else (dval (magR s) : Int)) else none
def numsR : List (List UInt8) → Option (List Int)
 | [] => some []
 | s :: l => match numR s, numsR l with | some v, some L => some (v :: L) | _, _ => none
theorem numR_itoa (x : Int) (h : -1048576 ≤ x ∧ x ≤ 1048576) : numR (Lib.itoa x) = some x := by
 have hl := itoa_short x h;unfold numR;rw [if_neg (by omega)];unfold Lib.itoa;by_cases hn : x < 0
 · rw [if_pos hn];have e1 : negB (45 :: Lib.decDigits x.natAbs) = true := by unfold negB; simp
   have e2 : magR (45 :: Lib.decDigits x.natAbs) = Lib.decDigits x.natAbs := by unfold magR; rw [e1]; rfl
   rw [e1, e2, if_pos (List.all_eq_true.2 (dec_dig _)), dec_val];simp; omega
 · rw [if_neg hn];have hd := dec_dig x.toNat;have hv := dec_val x.toNat;have e1 : negB (Lib.decDigits x.toNat) = false := by
    unfold negB;cases hl : Lib.decDigits x.toNat with
    | nil => simp
    | cons c r =>
     rw [hl] at hd;have h1 := hd c (List.mem_cons_self ..);simp;intro e; subst e; revert h1; decide
   have e2 : magR (Lib.decDigits x.toNat) = Lib.decDigits x.toNat := by unfold magR; rw [e1]; rfl
   rw [e1, e2, if_pos (List.all_eq_true.2 hd), hv];simp; omega
theorem numsR_back : ∀ l : List Int, small l → numsR (l.map Lib.itoa) = some l
 | [], _ => rfl
 | x :: l, h => by
  rw [List.map_cons, numsR, numR_itoa x (small_at (h x (List.mem_cons_self ..))), numsR_back l (fun y hy => h y (List.mem_cons_of_mem _ hy))]
def clR (c : Int) (s : List UInt8) : Int := if s ∈ (List.range 10).map (fun i => (wordS i).data.toList) then wdI s + 1 else c
def setR (c : Ce) (h : List UInt8) (l : List Int) : Ce :=
 if h = bNum then (match l with | [a] => { c with cn := a } | _ => c)
 else if h = bRun then { c with r := l }
 else if h = bPump then { c with p := l }
 else if h = bMark then { c with k := c.k ++ [l] }
 else if h = bMove then (match l with | [a, b, d] => { c with v := c.v ++ [⟨a, b, d⟩] } | _ => c)
 else if h = bSet then { c with s := c.s ++ [l] }
 else if h = bRow then { c with x := c.x ++ [l] }
 else c
def isClR (p : List (List UInt8)) : Bool := decide (p.headD [] = bClaim) && decide (p.length = 2)
def readR (c : Ce) (line : List UInt8) : Option Ce :=
 if isClR (cutAt 32 line) then some { c with cl := clR c.cl ((cutAt 32 line).getD 1 []) }
 else match numsR (cutAt 32 line).tail with
  | none => none
  | some l => some (setR c ((cutAt 32 line).headD []) l)
def foldR (c : Ce) : List (List UInt8) → Option Ce
 | [] => some c
 | s :: l => match readR c s with | none => none | some d => foldR d l
theorem foldR_app (l r : List (List UInt8)) : ∀ c : Ce, foldR c (l ++ r) = (foldR c l).bind fun d => foldR d r := by
 induction l with
 | nil => intro c; rfl
 | cons s l ih =>
  intro c;rw [List.cons_append, foldR, foldR];cases readR c s with
  | none => rfl
  | some d => exact ih d
theorem readR_ln (c : Ce) (w : List UInt8) (hw : (32 : UInt8) ∉ w) (hc : w ≠ bClaim) (l : List Int) (hl : small l) : readR c (lnL w l) = some (setR c w l) := by
 unfold readR;have e : isClR (w :: l.map Lib.itoa) = false := by
  unfold isClR;rw [show decide ((w :: l.map Lib.itoa).headD [] = bClaim) = false from decide_eq_false hc]; rfl
 rw [cut_ln w hw l, e, if_neg (by decide)];show (match numsR (l.map Lib.itoa) with | none => none | some l' => some (setR c w l')) = some (setR c w l);rw [numsR_back l hl]
theorem readR_head (c : Ce) (i : Nat) (hi : i < 10) : readR c (headL i) = some { c with cl := (i : Int) + 1 } := by
 have key : isClR (cutAt 32 (headL i)) = true ∧ (∀ k, clR k ((cutAt 32 (headL i)).getD 1 []) = (i : Int) + 1) := by
  match i, hi with
  | 0, _ => exact ⟨by decide, fun k => rfl⟩
  | 1, _ => exact ⟨by decide, fun k => rfl⟩
  | 2, _ => exact ⟨by decide, fun k => rfl⟩
  | 3, _ => exact ⟨by decide, fun k => rfl⟩
  | 4, _ => exact ⟨by decide, fun k => rfl⟩
  | 5, _ => exact ⟨by decide, fun k => rfl⟩
  | 6, _ => exact ⟨by decide, fun k => rfl⟩
  | 7, _ => exact ⟨by decide, fun k => rfl⟩
  | 8, _ => exact ⟨by decide, fun k => rfl⟩
  | 9, _ => exact ⟨by decide, fun k => rfl⟩
 unfold readR;rw [if_pos key.1, key.2]
theorem foldR_map (f : List Int → List UInt8) (g : Ce → List Int → Ce) (h : ∀ c l, small l → readR c (f l) = some (g c l)) : ∀ (LL : List (List Int)) (c : Ce), (∀ l ∈ LL, small l) → foldR c (LL.map f) = some (LL.foldl g c)
 | [], _, _ => rfl
 | a :: LL, c, hs => by
  rw [List.map_cons, foldR, h c a (hs a (List.mem_cons_self ..))];exact foldR_map f g h LL _ (fun l hl => hs l (List.mem_cons_of_mem _ hl))
theorem foldR_v : ∀ (V : List Mv) (c : Ce), (∀ m ∈ V, small (mvL m)) → foldR c (V.map fun m => lnL bMove (mvL m)) = some { c with v := c.v ++ V }
 | [], c, _ => by simp [foldR]
 | m :: V, c, h => by
  rw [List.map_cons, foldR, readR_ln c bMove (by decide) (by decide) _ (h m (List.mem_cons_self ..))];have e : setR c bMove (mvL m) = { c with v := c.v ++ [m] } := rfl;rw [e];simp only;rw [foldR_v V _ (fun x hx => h x (List.mem_cons_of_mem _ hx))];simp
theorem linesR_back (i : Nat) (hi : i < 10) (c : Ce) (hb : badCe c = false) : foldR Ce.zero (lnsC i c) = some { c with cl := (i : Int) + 1 } := by
 unfold badCe badT anyB at hb;simp only [Bool.or_eq_false_iff] at hb;obtain ⟨⟨⟨⟨⟨⟨⟨_, h1⟩, h2⟩, h3⟩, h4⟩, h5⟩, h6⟩, h7⟩ := hb;have hall : ∀ {LL : List (List Int)}, (LL.any fun l => l.any bigI) = false → ∀ l ∈ LL, small l := fun h l hl => small_of (by have := List.any_eq_false.1 h l hl; simpa using this)
 unfold lnsC;rw [foldR, readR_head _ i hi];simp only;rw [foldR, readR_ln _ bNum (by decide) (by decide) _ (small_of h1)];rw [show ∀ d : Ce, setR d bNum [c.cn] = { d with cn := c.cn } from fun d => rfl];simp only;rw [foldR, readR_ln _ bRun (by decide) (by decide) _ (small_of h2)];rw [show ∀ d : Ce, setR d bRun c.r = { d with r := c.r } from fun d => rfl];simp only;rw [foldR, readR_ln _ bPump (by decide) (by decide) _ (small_of h3)];rw [show ∀ d : Ce, setR d bPump c.p = { d with p := c.p } from fun d => rfl];simp only;rw [foldR_app, foldR_map (lnL bMark) (fun c l => { c with k := c.k ++ [l] }) (fun c l hl => by rw [readR_ln c bMark (by decide) (by decide) l hl]; rfl) _ _ (hall h4), fold_k];simp only [Option.bind_some];rw [foldR_app, foldR_v _ _ (fun m hm => small_of (by have := List.any_eq_false.1 h5 m hm; simpa using this))];simp only [Option.bind_some];rw [foldR_app, foldR_map (lnL bSet) (fun c l => { c with s := c.s ++ [l] }) (fun c l hl => by rw [readR_ln c bSet (by decide) (by decide) l hl]; rfl) _ _ (hall h6), fold_s];simp only [Option.bind_some];rw [foldR_map (lnL bRow) (fun c l => { c with x := c.x ++ [l] }) (fun c l hl => by rw [readR_ln c bRow (by decide) (by decide) l hl]; rfl) _ _ (hall h7), fold_x];simp [Ce.zero]
def parR (s : List UInt8) : Option Ce := match foldR Ce.zero (cutAt 10 s).dropLast with
 | none => none
 | some c => if textO c = some s then some c else none
theorem parR_iff (s : List UInt8) (c : Ce) : parR s = some c ↔ textO c = some s := by
 constructor
 · intro h;unfold parR at h;split at h
   · cases h
   · split at h
     · cases h; assumption
     · cases h
 · intro h;obtain ⟨h1, h2, h3, h4, h5⟩ := textO_lines h;unfold parR;have e1 : (cutAt 10 s).dropLast = lnsC (c.cl - 1).toNat c := by
    rw [h1, cut_flat _ (lns_no10 _ c), List.dropLast_concat]
   rw [e1, linesR_back _ (by omega) c h4];have e2 : ({ c with cl := (((c.cl - 1).toNat : Nat) : Int) + 1 } : Ce) = c := by
    rw [show (((c.cl - 1).toNat : Nat) : Int) + 1 = c.cl by omega]
   rw [e2];simp only;rw [if_pos h]
theorem par_same (s : List UInt8) : parP s = parR s := by
 cases h : parR s with
 | some c => exact (parP_iff s c).2 ((parR_iff s c).1 h)
 | none =>
  cases h2 : parP s with
  | none => rfl
  | some c => rw [(parR_iff s c).2 ((parP_iff s c).1 h2)] at h; cases h
end Go.Proofs.YtkhmngljpfibcaaGreatDoor
