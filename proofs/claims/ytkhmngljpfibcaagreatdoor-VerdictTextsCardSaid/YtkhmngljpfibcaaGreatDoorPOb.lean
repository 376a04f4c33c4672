/- Certificates out of their text, plain: the pieces between bytes, what a line says. Certificates out of their text, plain: what is written is read back. -/
import Derived.Test.YtkhmngljpfibcaaGreatDoorPUu
import Derived.Test.YtkhmngljpfibcaaGreatDoorPQt
import Derived.Test.YtkhmngljpfibcaaGreatDoorPDj
import Derived.Lib.AtoiAll
import Derived.Lib.SplitLaws
namespace Go.Proofs.YtkhmngljpfibcaaGreatDoor
section
open Go.RowKit

structure Ce where
 cl : Int
 cn : Int
 r : List Int
 p : List Int
 k : List (List Int)
 v : List Mv
 s : List (List Int)
 x : List (List Int)
def Ce.zero : Ce := ⟨0, 0, [], [], [], [], [], []⟩
def cutAt (c : UInt8) : List UInt8 → List (List UInt8)
 | [] => [[]]
 | b :: l => if b = c then [] :: cutAt c l else (b :: (cutAt c l).headD []) :: (cutAt c l).tail
theorem cutAt_ne (c : UInt8) : ∀ l : List UInt8, cutAt c l ≠ []
 | [] => by simp [cutAt]
 | b :: l => by
  rw [cutAt];split <;> simp
theorem cutAt_cons (c : UInt8) (l : List UInt8) : (cutAt c l).headD [] :: (cutAt c l).tail = cutAt c l := by
 cases h : cutAt c l with
 | nil => exact absurd h (cutAt_ne c l)
 | cons a t => rfl
theorem cutAt_app (c : UInt8) (l : List UInt8) : ∀ a : List UInt8, c ∉ a → cutAt c (a ++ c :: l) = a :: cutAt c l
 | [], _ => by simp [cutAt]
 | b :: a, h => by
  have h1 : ¬ b = c := fun e => h (by simp [e])
  have ih := cutAt_app c l a (fun e => h (by simp [e]));rw [List.cons_append, cutAt, if_neg h1, ih];rfl
theorem cutAt_no (c : UInt8) : ∀ a : List UInt8, c ∉ a → cutAt c a = [a]
 | [], _ => rfl
 | b :: a, h => by
  have h1 : ¬ b = c := fun e => h (by simp [e])
  have ih := cutAt_no c a (fun e => h (by simp [e]));rw [cutAt, if_neg h1, ih];rfl
theorem cut_find (c : UInt8) : ∀ l : List UInt8, c ∉ l ∨ ∃ a r, l = a ++ c :: r ∧ c ∉ a
 | [] => .inl (by simp)
 | b :: l => by
  by_cases h : b = c
  · exact .inr ⟨[], l, by simp [h], by simp⟩
  · rcases cut_find c l with h2 | ⟨a, r, h2, h3⟩
    · exact .inl (by simp; exact ⟨fun e => h e.symm, h2⟩)
    · exact .inr ⟨b :: a, r, by simp [h2], by simp; exact ⟨fun e => h e.symm, h3⟩⟩
theorem index_app (c : UInt8) (l : List UInt8) : ∀ a : List UInt8, c ∉ a → Lib.index (a ++ c :: l) [c] = (a.length : Int)
 | [], _ => by simp [Lib.index, List.isPrefixOf]
 | b :: a, h => by
  have h1 : ¬ c = b := fun e => h (by simp [e])
  have ih := index_app c l a (fun e => h (by simp [e]));rw [List.cons_append, Lib.index, ih];have h3 : ([c].isPrefixOf (b :: (a ++ c :: l))) = false := by simp [List.isPrefixOf, h1]
  rw [h3];have h4 : ((a.length : Int) == -1) = false := by rw [beq_eq_false_iff_ne]; omega
  simp [h4]
theorem splitK_cut (c : UInt8) : ∀ (k : Nat) (s : List UInt8), s.count c = k → Lib.splitK [c] 0 k s = cutAt c s
 | 0, s, h => by
  rw [Lib.splitK, cutAt_no c s (List.count_eq_zero.1 h)]
 | k + 1, s, h => by
  rcases cut_find c s with h2 | ⟨a, r, rfl, h3⟩
  · rw [List.count_eq_zero.2 h2] at h; omega
  · have ha := List.count_eq_zero.2 h3;have hk : r.count c = k := by rw [List.count_append, ha, List.count_cons_self] at h; omega
    have h4 : ((a.length : Int) == -1) = false := by rw [beq_eq_false_iff_ne]; omega
    rw [Lib.splitK, index_app c r a h3, h4];rw [show (a.length : Int).toNat = a.length by omega, cutAt_app c r a h3];rw [if_neg (by decide)];have e1 : (a ++ c :: r).take (a.length + 0) = a := by simp
    have e2 : (a ++ c :: r).drop (a.length + [c].length) = r := by
     rw [show a ++ c :: r = (a ++ [c]) ++ r by simp];exact List.drop_left' (by simp)
    rw [e1, e2, splitK_cut c k r hk]
theorem split_cut (c : UInt8) (s : List UInt8) : Lib.split s [c] = cutAt c s := by
 unfold Lib.split;exact splitK_cut c _ s (Lib.count_one c s).symm
theorem cutAt_mem (c : UInt8) : ∀ (l x : List UInt8), x ∈ cutAt c l → c ∉ x ∧ x.length ≤ l.length
 | [], x, h => by simp [cutAt] at h; subst h; simp
 | b :: l, x, h => by
  rw [cutAt] at h;by_cases hb : b = c
  · rw [if_pos hb] at h;rcases List.mem_cons.1 h with h | h
    · subst h; simp
    · have := cutAt_mem c l x h;exact ⟨this.1, by simp; omega⟩
  · rw [if_neg hb] at h;rcases List.mem_cons.1 h with h | h
    · have h2 : (cutAt c l).headD [] ∈ cutAt c l := by rw [← cutAt_cons c l]; simp
      have := cutAt_mem c l _ h2;subst h;generalize (cutAt c l).headD [] = d at this;exact ⟨by simp; exact ⟨fun e => hb e.symm, this.1⟩, by simp; omega⟩
    · have := cutAt_mem c l x (by rw [← cutAt_cons c l]; exact List.mem_cons_of_mem _ h);exact ⟨this.1, by simp; omega⟩
theorem cutAt_len (c : UInt8) : ∀ l : List UInt8, ((cutAt c l).map List.length).sum + (cutAt c l).length = l.length + 1
 | [] => by simp [cutAt]
 | b :: l => by
  have ih := cutAt_len c l;rw [cutAt];by_cases hb : b = c
  · rw [if_pos hb]; simp; omega
  · rw [if_neg hb];rw [← cutAt_cons c l] at ih;simp at ih ⊢;omega
def wdI (s : List UInt8) : Int := if s ∈ (List.range 10).map (fun i => (wordS i).data.toList) then ((((List.range 10).findIdx fun i => decide ((wordS i).data.toList = s)) : Nat) : Int) else -1
def atoiO (s : List UInt8) : Option Int := match Lib.atoiAll s with | .ok v => some v | _ => none
def numsP : List (List UInt8) → Option (List Int)
 | [] => some []
 | s :: l => match atoiO s, numsP l with | some v, some L => some (v :: L) | _, _ => none
def bNum : List UInt8 := [110, 117, 109, 98, 101, 114]
def bRun : List UInt8 := [114, 117, 110]
def bPump : List UInt8 := [112, 117, 109, 112]
def bMark : List UInt8 := [109, 97, 114, 107]
def bMove : List UInt8 := [109, 111, 118, 101]
def bSet : List UInt8 := [115, 101, 116]
def bRow : List UInt8 := [114, 111, 119]
def bClaim : List UInt8 := [99, 108, 97, 105, 109]
def setP (c : Ce) (h : List UInt8) (l : List Int) : Option Ce :=
 if h = bNum then (match l with | [a] => some { c with cn := a } | _ => none)
 else if h = bRun then some { c with r := l }
 else if h = bPump then some { c with p := l }
 else if h = bMark then some { c with k := c.k ++ [l] }
 else if h = bMove then (match l with | [a, b, d] => some { c with v := c.v ++ [⟨a, b, d⟩] } | _ => none)
 else if h = bSet then some { c with s := c.s ++ [l] }
 else if h = bRow then some { c with x := c.x ++ [l] }
 else none
def trimC (l : List UInt8) : List UInt8 := if (bClaim ++ [32]).isPrefixOf l then l.drop 6 else l
def readP (c : Ce) (line : List UInt8) : Option Ce :=
 if (cutAt 32 line).headD [] = bClaim then some { c with cl := wdI (trimC line) + 1 }
 else match numsP (cutAt 32 line).tail with
  | none => none
  | some l => setP c ((cutAt 32 line).headD []) l
def foldP (c : Ce) : List (List UInt8) → Option Ce
 | [] => some c
 | s :: l => match readP c s with | none => none | some d => foldP d l
theorem foldP_app (l r : List (List UInt8)) : ∀ c : Ce, foldP c (l ++ r) = (foldP c l).bind fun d => foldP d r := by
 induction l with
 | nil => intro c; rfl
 | cons s l ih =>
  intro c;rw [List.cons_append, foldP, foldP];cases readP c s with
  | none => rfl
  | some d => exact ih d
end
section
open Go.RowKit

theorem par_fold (l : List UInt8) : ∀ a : Nat, a ≤ l.foldl (fun n c => 10 * n + (c.toNat - 48)) a := by
 induction l with
 | nil => intro a; exact Nat.le_refl _
 | cons c l ih => intro a; exact Nat.le_trans (by omega) (ih (10 * a + (c.toNat - 48)))
theorem par_dig : ∀ (l : List UInt8) (a : Nat), (∀ c ∈ l, isDig c = true) → l.foldl (fun n c => 10 * n + (c.toNat - 48)) a < 1000000000000000000 → Lib.parseUint10 a l = .ok (l.foldl (fun n c => 10 * n + (c.toNat - 48)) a)
 | [], a, _, _ => rfl
 | c :: l, a, hd, hv => by
  have h1 : 48 ≤ c.toNat ∧ c.toNat ≤ 57 := by have := hd c (List.mem_cons_self ..); unfold isDig at this; simpa using this
  rw [List.foldl_cons] at hv ⊢;have h2 := par_fold l (10 * a + (c.toNat - 48));rw [Lib.parseUint10, if_pos h1, if_neg (by omega), if_neg (by omega), show a * 10 + (c.toNat - 48) = 10 * a + (c.toNat - 48) by omega];exact par_dig l _ (fun x hx => hd x (List.mem_cons_of_mem _ hx)) hv
theorem par_dec (u : Nat) (h : u < 1000000000000000000) : Lib.parseMag (Lib.decDigits u) = .ok u := by
 unfold Lib.parseMag;rw [if_neg (dec_ne u), par_dig _ 0 (dec_dig u) (by have := dec_val u; unfold dval at this; omega)];have := dec_val u;unfold dval at this;rw [this]
theorem atoi_itoa (x : Int) (h : -1000000000000000 ≤ x ∧ x ≤ 1000000000000000) : atoiO (Lib.itoa x) = some x := by
 unfold atoiO Lib.itoa;by_cases hn : x < 0
 · rw [if_pos hn];unfold Lib.atoiAll;simp only [show (45 : UInt8).toNat = 45 from rfl, or_true, if_true];rw [par_dec _ (by omega)];simp only [not_true, false_and, if_false, true_and];rw [if_neg (by omega)];simp; omega
 · rw [if_neg hn];have hd := dec_dig x.toNat;have hm := par_dec x.toNat (by omega);cases hl : Lib.decDigits x.toNat with
   | nil => exact absurd hl (dec_ne _)
   | cons c r =>
    rw [hl] at hd hm;have h1 : 48 ≤ c.toNat ∧ c.toNat ≤ 57 := by have := hd c (List.mem_cons_self ..); unfold isDig at this; simpa using this
    unfold Lib.atoiAll;simp only;rw [if_neg (by omega), hm];simp only;rw [if_neg (by omega), if_neg (by omega), if_neg (by omega)];simp; omega
theorem itoa_ch (x : Int) : ∀ c ∈ Lib.itoa x, c = 45 ∨ isDig c = true := by
 intro c hc;unfold Lib.itoa at hc;split at hc
 · rcases List.mem_cons.1 hc with h | h
   · exact .inl h
   · exact .inr (dec_dig _ _ h)
 · exact .inr (dec_dig _ _ hc)
theorem itoa_no10 (x : Int) : (10 : UInt8) ∉ Lib.itoa x := by
 intro h;rcases itoa_ch x _ h with e | e
 · revert e; decide
 · revert e; decide
theorem itoa_n32 (x : Int) : (32 : UInt8) ∉ Lib.itoa x := by
 intro h;rcases itoa_ch x _ h with e | e
 · revert e; decide
 · revert e; decide
def lnL (w : List UInt8) (l : List Int) : List UInt8 := w ++ l.flatMap numT
theorem cut_ln (w : List UInt8) (hw : (32 : UInt8) ∉ w) (l : List Int) : cutAt 32 (lnL w l) = w :: l.map Lib.itoa := by
 induction l generalizing w with
 | nil => unfold lnL; simp; exact cutAt_no 32 w hw
 | cons x l ih =>
  have e : lnL w (x :: l) = w ++ 32 :: lnL (Lib.itoa x) l := by unfold lnL numT; simp
  rw [e, cutAt_app 32 _ w hw, ih _ (itoa_n32 x)];rfl
theorem ln_no10 (w : List UInt8) (hw : (10 : UInt8) ∉ w) (l : List Int) : (10 : UInt8) ∉ lnL w l := by
 unfold lnL;intro h;rcases List.mem_append.1 h with h | h
 · exact hw h
 · obtain ⟨x, _, hx⟩ := List.mem_flatMap.1 h;unfold numT at hx;rcases List.mem_cons.1 hx with e | e
   · revert e; decide
   · exact itoa_no10 x e
def small (l : List Int) : Prop := ∀ x ∈ l, bigI x = false
theorem small_at {x : Int} (h : bigI x = false) : -1048576 ≤ x ∧ x ≤ 1048576 := by
 unfold bigI at h; simp at h; omega
theorem nums_back : ∀ l : List Int, small l → numsP (l.map Lib.itoa) = some l
 | [], _ => rfl
 | x :: l, h => by
  have h1 := small_at (h x (List.mem_cons_self ..));rw [List.map_cons, numsP, atoi_itoa x (by omega), nums_back l (fun y hy => h y (List.mem_cons_of_mem _ hy))]
theorem read_ln (c : Ce) (w : List UInt8) (hw : (32 : UInt8) ∉ w) (hc : w ≠ bClaim) (l : List Int) (hl : small l) : readP c (lnL w l) = setP c w l := by
 unfold readP;rw [cut_ln w hw l, if_neg (show ¬ ((w :: l.map Lib.itoa).headD [] = bClaim) from hc)];show (match numsP (l.map Lib.itoa) with | none => none | some l' => setP c w l') = setP c w l;rw [nums_back l hl]
theorem read_head (c : Ce) (i : Nat) (hi : i < 10) : readP c (headL i) = some { c with cl := (i : Int) + 1 } := by
 have key : (cutAt 32 (headL i)).headD [] = bClaim ∧ wdI (trimC (headL i)) = (i : Int) := by
  match i, hi with
  | 0, _ => decide
  | 1, _ => decide
  | 2, _ => decide
  | 3, _ => decide
  | 4, _ => decide
  | 5, _ => decide
  | 6, _ => decide
  | 7, _ => decide
  | 8, _ => decide
  | 9, _ => decide
 unfold readP;rw [if_pos key.1, key.2]
def lnsC (i : Nat) (c : Ce) : List (List UInt8) :=
 headL i :: lnL bNum [c.cn] :: lnL bRun c.r :: lnL bPump c.p :: (c.k.map (lnL bMark) ++ (c.v.map (fun m => lnL bMove (mvL m)) ++ (c.s.map (lnL bSet) ++ c.x.map (lnL bRow))))
def flat (L : List (List UInt8)) : List UInt8 := L.flatMap fun l => l ++ [10]
theorem text_flat (i : Nat) (c : Ce) : textL i c.cn c.r c.p c.k c.v c.s c.x = flat (lnsC i c) := by
 have e1 : ∀ w l, lineL w l = lnL w l ++ [10] := fun w l => by unfold lineL lnL; simp
 have e2 : ∀ w LL, linesL w LL = flat (LL.map (lnL w)) := fun w LL => by
  unfold linesL flat;rw [List.flatMap_map];exact congrArg (fun f => List.flatMap f LL) (funext fun l => e1 w l)
 have e3 : movesL c.v = flat (c.v.map fun m => lnL bMove (mvL m)) := by
  unfold movesL flat;rw [List.flatMap_map];exact congrArg (fun f => List.flatMap f c.v) (funext fun l => e1 _ _)
 have e4 : ∀ a L, flat (a :: L) = (a ++ [10]) ++ flat L := fun a L => by unfold flat; simp
 have e5 : ∀ L M, flat (L ++ M) = flat L ++ flat M := fun L M => by unfold flat; simp
 unfold textL lnsC;rw [e4, e4, e4, e4, e5, e5, e5, e1, e1, e1, e1, e2, e2, e2, e3];have e6 : lnL (headL i) [] = headL i := by unfold lnL; simp
 rw [e6];simp only [List.append_assoc];rfl
theorem cut_flat : ∀ L : List (List UInt8), (∀ l ∈ L, (10 : UInt8) ∉ l) → cutAt 10 (flat L) = L ++ [[]]
 | [], _ => rfl
 | a :: L, h => by
  have e : flat (a :: L) = a ++ 10 :: flat L := by unfold flat; simp
  rw [e, cutAt_app 10 _ a (h a (List.mem_cons_self ..)), cut_flat L (fun l hl => h l (List.mem_cons_of_mem _ hl))];rfl
theorem cut_drop : ∀ L : List (List UInt8), L ≠ [] → (∀ l ∈ L, (10 : UInt8) ∉ l) → cutAt 10 (flat L).dropLast = L
 | [], h, _ => absurd rfl h
 | [a], _, h => by
  have e : flat [a] = a ++ [10] := by unfold flat; simp
  rw [e, List.dropLast_concat];exact cutAt_no 10 a (h a (by simp))
 | a :: b :: L, _, h => by
  have e : flat (a :: b :: L) = a ++ 10 :: flat (b :: L) := by unfold flat; simp
  have hne : flat (b :: L) ≠ [] := by unfold flat; simp
  have e2 : (a ++ 10 :: flat (b :: L)).dropLast = a ++ 10 :: (flat (b :: L)).dropLast := by
   rw [List.dropLast_append_of_ne_nil (by simp), List.dropLast_cons_of_ne_nil hne]
  rw [e, e2, cutAt_app 10 _ a (h a (List.mem_cons_self ..)), cut_drop (b :: L) (by simp) (fun l hl => h l (List.mem_cons_of_mem _ hl))]
theorem head_no10 (i : Nat) : (10 : UInt8) ∉ headL i := by
 have key : ∀ i, i < 10 → (10 : UInt8) ∉ headL i := by
  intro i hi
  match i, hi with
  | 0, _ => decide
  | 1, _ => decide
  | 2, _ => decide
  | 3, _ => decide
  | 4, _ => decide
  | 5, _ => decide
  | 6, _ => decide
  | 7, _ => decide
  | 8, _ => decide
  | 9, _ => decide
 by_cases h : i < 10
 · exact key i h
 · have e : headL i = headL 9 := by
    unfold headL wordS;split <;> first | omega | rfl
   rw [e]; exact key 9 (by omega)
theorem lns_no10 (i : Nat) (c : Ce) : ∀ l ∈ lnsC i c, (10 : UInt8) ∉ l := by
 intro l hl;unfold lnsC at hl;simp only [List.mem_cons, List.mem_append, List.mem_map] at hl;rcases hl with rfl | rfl | rfl | rfl | ⟨a, _, rfl⟩ | ⟨a, _, rfl⟩ | ⟨a, _, rfl⟩ | ⟨a, _, rfl⟩
 · exact head_no10 i
 all_goals exact ln_no10 _ (by decide) _
theorem small_of {l : List Int} (h : l.any bigI = false) : small l := fun x hx => by
 have := List.any_eq_false.1 h x hx; simpa using this
theorem fold_map (f : List Int → List UInt8) (g : Ce → List Int → Ce) (h : ∀ c l, small l → readP c (f l) = some (g c l)) : ∀ (LL : List (List Int)) (c : Ce), (∀ l ∈ LL, small l) → foldP c (LL.map f) = some (LL.foldl g c)
 | [], _, _ => rfl
 | a :: LL, c, hs => by
  rw [List.map_cons, foldP, h c a (hs a (List.mem_cons_self ..))];exact fold_map f g h LL _ (fun l hl => hs l (List.mem_cons_of_mem _ hl))
theorem fold_k (LL : List (List Int)) : ∀ c : Ce, LL.foldl (fun c l => { c with k := c.k ++ [l] }) c = { c with k := c.k ++ LL } := by
 induction LL with
 | nil => intro c; simp
 | cons a LL ih => intro c; rw [List.foldl_cons, ih]; simp
theorem fold_s (LL : List (List Int)) : ∀ c : Ce, LL.foldl (fun c l => { c with s := c.s ++ [l] }) c = { c with s := c.s ++ LL } := by
 induction LL with
 | nil => intro c; simp
 | cons a LL ih => intro c; rw [List.foldl_cons, ih]; simp
theorem fold_x (LL : List (List Int)) : ∀ c : Ce, LL.foldl (fun c l => { c with x := c.x ++ [l] }) c = { c with x := c.x ++ LL } := by
 induction LL with
 | nil => intro c; simp
 | cons a LL ih => intro c; rw [List.foldl_cons, ih]; simp
theorem fold_v : ∀ (V : List Mv) (c : Ce), (∀ m ∈ V, small (mvL m)) → foldP c (V.map fun m => lnL bMove (mvL m)) = some { c with v := c.v ++ V }
 | [], c, _ => by simp [foldP]
 | m :: V, c, h => by
  rw [List.map_cons, foldP, read_ln c bMove (by decide) (by decide) _ (h m (List.mem_cons_self ..))];have e : setP c bMove (mvL m) = some { c with v := c.v ++ [m] } := rfl;rw [e];simp only;rw [fold_v V _ (fun x hx => h x (List.mem_cons_of_mem _ hx))];simp
def badCe (c : Ce) : Bool := badT c.cn c.r c.p c.k c.v c.s c.x
theorem lines_back (i : Nat) (hi : i < 10) (c : Ce) (hb : badCe c = false) : foldP Ce.zero (lnsC i c) = some { c with cl := (i : Int) + 1 } := by
 unfold badCe badT anyB at hb;simp only [Bool.or_eq_false_iff] at hb;obtain ⟨⟨⟨⟨⟨⟨⟨_, h1⟩, h2⟩, h3⟩, h4⟩, h5⟩, h6⟩, h7⟩ := hb;have hall : ∀ {LL : List (List Int)}, (LL.any fun l => l.any bigI) = false → ∀ l ∈ LL, small l := fun h l hl => small_of (by have := List.any_eq_false.1 h l hl; simpa using this)
 unfold lnsC;rw [foldP, read_head _ i hi];simp only;rw [foldP, read_ln _ bNum (by decide) (by decide) _ (small_of h1)];rw [show ∀ d : Ce, setP d bNum [c.cn] = some { d with cn := c.cn } from fun d => rfl];simp only;rw [foldP, read_ln _ bRun (by decide) (by decide) _ (small_of h2)];rw [show ∀ d : Ce, setP d bRun c.r = some { d with r := c.r } from fun d => rfl];simp only;rw [foldP, read_ln _ bPump (by decide) (by decide) _ (small_of h3)];rw [show ∀ d : Ce, setP d bPump c.p = some { d with p := c.p } from fun d => rfl];simp only;rw [foldP_app, fold_map (lnL bMark) (fun c l => { c with k := c.k ++ [l] }) (fun c l hl => by rw [read_ln c bMark (by decide) (by decide) l hl]; rfl) _ _ (hall h4), fold_k];simp only [Option.bind_some];rw [foldP_app, fold_v _ _ (fun m hm => small_of (by have := List.any_eq_false.1 h5 m hm; simpa using this))];simp only [Option.bind_some];rw [foldP_app, fold_map (lnL bSet) (fun c l => { c with s := c.s ++ [l] }) (fun c l hl => by rw [read_ln c bSet (by decide) (by decide) l hl]; rfl) _ _ (hall h6), fold_s];simp only [Option.bind_some];rw [fold_map (lnL bRow) (fun c l => { c with x := c.x ++ [l] }) (fun c l hl => by rw [read_ln c bRow (by decide) (by decide) l hl]; rfl) _ _ (hall h7), fold_x];simp [Ce.zero]
def textO (c : Ce) : Option (List UInt8) := if (1 ≤ c.cl ∧ c.cl ≤ 10) ∧ badCe c = false ∧ (textL (c.cl - 1).toNat c.cn c.r c.p c.k c.v c.s c.x).length ≤ 262144 then some (textL (c.cl - 1).toNat c.cn c.r c.p c.k c.v c.s c.x) else none
theorem textO_lines {c : Ce} {s : List UInt8} (h : textO c = some s) : s = flat (lnsC (c.cl - 1).toNat c) ∧ 1 ≤ c.cl ∧ c.cl ≤ 10 ∧ badCe c = false ∧ s.length ≤ 262144 := by
 unfold textO at h;split at h
 · rename_i h1;obtain ⟨h2, h3, h4⟩ := h1;cases h;exact ⟨text_flat _ c, h2.1, h2.2, h3, h4⟩
 · cases h
def trimN (s : List UInt8) : List UInt8 := if s.getLast? = some 10 then s.dropLast else s
def parP (s : List UInt8) : Option Ce := match foldP Ce.zero (cutAt 10 (trimN s)) with
 | none => none
 | some c => if textO c = some s then some c else none
theorem flat_last (L : List (List UInt8)) (h : L ≠ []) : (flat L).getLast? = some 10 := by
 unfold flat;obtain ⟨M, a, rfl⟩ : ∃ M a, L = M ++ [a] := ⟨L.dropLast, L.getLast h, (List.dropLast_concat_getLast h).symm⟩;rw [List.flatMap_append];simp
theorem parP_iff (s : List UInt8) (c : Ce) : parP s = some c ↔ textO c = some s := by
 constructor
 · intro h;unfold parP at h;split at h
   · cases h
   · split at h
     · cases h; assumption
     · cases h
 · intro h;obtain ⟨h1, h2, h3, h4, h5⟩ := textO_lines h;unfold parP;have e1 : trimN s = (flat (lnsC (c.cl - 1).toNat c)).dropLast := by
    unfold trimN;rw [h1, flat_last _ (by unfold lnsC; simp), if_pos rfl]
   rw [e1, cut_drop _ (by unfold lnsC; simp) (lns_no10 _ c), lines_back _ (by omega) c h4];have e2 : ({ c with cl := (((c.cl - 1).toNat : Nat) : Int) + 1 } : Ce) = c := by
    rw [show (((c.cl - 1).toNat : Nat) : Int) + 1 = c.cl by omega]
   rw [e2];simp only;rw [if_pos h]
end
end Go.Proofs.YtkhmngljpfibcaaGreatDoor
