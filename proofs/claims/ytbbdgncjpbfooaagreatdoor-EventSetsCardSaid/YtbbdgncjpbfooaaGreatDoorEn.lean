/- event.words, event.Text: what a call returns. -/
import Derived.Test.YtbbdgncjpbfooaaGreatDoorEm
import Derived.Test.YtbbdgncjpbfooaaGreatDoorEf
import Derived.Laws.OwnMore
import Derived.Deep.RegionHeld3
import Derived.Deep.DeepCutAuto
namespace Go.Proofs.YtbbdgncjpbfooaaGreatDoor
open Go.RowKit

/-- a region goes on under a stronger word on the worlds -/
theorem wpAnyH_mono {P : Program} {md : Region.Mode} {ops : Array Oper} {Q : Exit → Act → World → Prop} {S S' : World → Prop} (hS : ∀ w, S' w → S w) : ∀ (fuel : Nat) (listed : Array Bool) (a : Act) (w : World), wpAnyH P md ops Q S' fuel listed a w → wpAnyH P md ops Q S fuel listed a w
  | 0, _, _, _, h => h
  | fuel + 1, _, _, _, h => ⟨h.1, fun i hi => wpOp_mono (fun a' w' h' => ⟨hS _ h'.1, wpAnyH_mono hS fuel _ a' w' h'.2⟩) (h.2 i hi)⟩
/-- the word of a step, as a string -/
def lifeB (n : Int) : ByteArray := ⟨(lifeW n).toArray⟩
/-- what words returns: six words in a new block -/
def WdPost (w : World) (e : Ending) (w' : World) : Prop := ∃ g, e = .returned (.slice (some ⟨g, 0, none⟩) 6 6) ∧ g < w'.heap.size ∧ (∀ n : Int, 1 ≤ n → n ≤ 6 → w'.cell? ⟨g, n.toNat - 1, none⟩ = some (.string (lifeB n))) ∧ Below w.heap.size w w'
set_option maxHeartbeats 400000 in
theorem ewords_any (w : World) : Calls Tryz.prog 31 #[] w (WdPost w) := by
  go_enter Tryz.func31, Tryz.ntmps31
  go_wp2_with fail
  go_ret
  refine ⟨_, rfl, by simp, fun n h1 h6 => ?_, below_alloc w _⟩
  rcases step_of n h1 h6 with rfl | rfl | rfl | rfl | rfl | rfl
  all_goals
    simp
    rfl
/-- a block that holds an event -/
def EB (w : World) (b : Nat) (e : Ev) (A : Option Addr) (n cap : Nat) : Prop := w.heap[b]? = some (.cells #[.string e.c, .string e.a, .string e.r, .int .i64 e.life, .int .i64 e.time, .slice A n cap] 24 (0, 0))
theorem EB.lt {w : World} {b : Nat} {e : Ev} {A : Option Addr} {n cap : Nat} (h : EB w b e A n cap) : b < w.heap.size := by
  rcases Nat.lt_or_ge b w.heap.size with h2 | h2
  · exact h2
  · unfold EB at h; simp [Array.getElem?_eq_none h2] at h
theorem EB.cells {w : World} {b : Nat} {e : Ev} {A : Option Addr} {n cap : Nat} (h : EB w b e A n cap) :
    w.cell? ⟨b, 0, none⟩ = some (.string e.c) ∧ w.cell? ⟨b, 1, none⟩ = some (.string e.a) ∧ w.cell? ⟨b, 2, none⟩ = some (.string e.r) ∧ w.cell? ⟨b, 3, none⟩ = some (.int .i64 e.life) ∧ w.cell? ⟨b, 4, none⟩ = some (.int .i64 e.time) ∧ w.cell? ⟨b, 5, none⟩ = some (.slice A n cap) := by
  unfold EB at h
  simp [World.cell?, h]
theorem EB.below {w w' : World} {b : Nat} {e : Ev} {A : Option Addr} {n cap : Nat} (h : EB w b e A n cap) (hb : Below w.heap.size w w') : EB w' b e A n cap := by
  unfold EB at h ⊢
  rw [hb.block b (EB.lt h)]; exact h
theorem EB.new (w : World) (e : Ev) (A : Option Addr) (n cap : Nat) : EB (w.alloc (.cells #[.string e.c, .string e.a, .string e.r, .int .i64 e.life, .int .i64 e.time, .slice A n cap] 24)) w.heap.size e A n cap := by
  unfold EB; exact heap_alloc_new w _
/-- the words of an event up to a field, as strings -/
def textB (e : Ev) (k : Nat) : List ByteArray := [e.c, e.a, e.r, lifeB e.life, ⟨(Lib.itoa e.time).toArray⟩] ++ (e.d.take k).map fun f => ⟨f.tx.toArray⟩
theorem textB_zero (e : Ev) : textB e 0 = [e.c, e.a, e.r, lifeB e.life, ⟨(Lib.itoa e.time).toArray⟩] := rfl
theorem textB_succ (e : Ev) (k : Nat) (h : k < e.d.length) : textB e (k + 1) = textB e k ++ [⟨(e.d[k]).tx.toArray⟩] := by
  unfold textB
  rw [List.take_succ_eq_append_getElem h, List.map_append, List.append_assoc]; rfl
theorem textB_ws (e : Ev) : (textB e e.d.length).map (·.data.toList) = e.ws := by
  unfold textB Ev.ws
  rw [List.take_length, List.map_append, List.map_map]
  rfl
theorem textB_len (e : Ev) (k : Nat) : (textB e k).length ≤ k + 5 := by unfold textB; simp; omega
/-- while a text is made: the event's block, the words so far -/
def TSt (w wr : World) (v : Value) (L : List ByteArray) (e : Ev) (A : Option Addr) (n cap : Nat) : Prop :=
  EB wr w.heap.size e A n cap ∧ wr.ownsRow (w.heap.size + 1) 9 1 v L.length (L.map Value.string) ∧ Below w.heap.size w wr
theorem TSt.eb {w wr : World} {v : Value} {L : List ByteArray} {e : Ev} {A : Option Addr} {n cap : Nat} (h : TSt w wr v L e A n cap) : EB wr w.heap.size e A n cap := h.1
theorem TSt.own {w wr : World} {v : Value} {L : List ByteArray} {e : Ev} {A : Option Addr} {n cap : Nat} (h : TSt w wr v L e A n cap) : wr.ownsRow (w.heap.size + 1) 9 1 v L.length (L.map Value.string) := h.2.1
theorem TSt.bel {w wr : World} {v : Value} {L : List ByteArray} {e : Ev} {A : Option Addr} {n cap : Nat} (h : TSt w wr v L e A n cap) : Below w.heap.size w wr := h.2.2
theorem TSt.size {w wr : World} {v : Value} {L : List ByteArray} {e : Ev} {A : Option Addr} {n cap : Nat} (h : TSt w wr v L e A n cap) : w.heap.size + 1 ≤ wr.heap.size := h.1.lt
theorem TSt.below {w wr w' : World} {v : Value} {L : List ByteArray} {e : Ev} {A : Option Addr} {n cap : Nat} (h : TSt w wr v L e A n cap) (hb : Below wr.heap.size wr w') : TSt w w' v L e A n cap :=
  ⟨h.1.below hb, own_stays h.2.1 hb, below_then h.2.2 hb⟩
theorem TSt.slice {w wr : World} {v : Value} {L : List ByteArray} {e : Ev} {A : Option Addr} {n cap : Nat} (h : TSt w wr v L e A n cap) : ∃ A c, v = .slice A L.length c := by
  rcases h.own.2 with ⟨rfl, h0⟩ | ⟨g, cap, cur, rfl, _⟩
  · exact ⟨none, 0, by rw [h0]⟩
  · exact ⟨_, cap, rfl⟩
theorem TSt.push {w wr w' : World} {v v' : Value} {L : List ByteArray} {e : Ev} {A : Option Addr} {n cap : Nat} {t : ByteArray} {o : Obj} (h : TSt w wr v L e A n cap) (ho : w'.ownsRow (w.heap.size + 1) 9 1 v' (L.length + 1) (L.map Value.string ++ [.string t])) (hg : (wr.alloc o).grownBy w' v.ownBlock) : TSt w w' v' (L ++ [t]) e A n cap := by
  have hsz := h.size
  refine ⟨?_, by rw [List.length_append, List.map_append]; exact ho, (h.bel.alloc (by omega) o).grown hg (by simp; omega) (fun k hk => by have := (h.own.lt k hk).1; omega)⟩
  unfold EB
  rw [hg.block w.heap.size (by simp; omega) (fun e => by have := (h.own.lt _ e.symm).1; omega), Below.heap_alloc wr o _ (by omega)]
  exact h.1
theorem TSt.lit {w wr : World} {e : Ev} {A : Option Addr} {n cap : Nat} (hE : EB wr w.heap.size e A n cap) (hb : Below w.heap.size w wr) (a b c d f : ByteArray) :
    TSt w (wr.alloc (.cells #[.string a, .string b, .string c, .string d, .string f] 9)) (.slice (some ⟨wr.heap.size, 0, none⟩) 5 5) [a, b, c, d, f] e A n cap := by
  have := hE.lt
  exact ⟨hE.below (below_alloc wr _), World.ownsRow_lit _ _ 5 (by omega) (by unfold maxLen; omega) rfl, hb.alloc (by omega) _⟩
theorem tx_cat (f : Fd) : f.nm ++ (⟨#[61]⟩ : ByteArray) ++ (⟨f.v.tx.toArray⟩ : ByteArray) = ⟨f.tx.toArray⟩ := by
  refine bytes_ext ?_
  unfold Fd.tx
  simp [ByteArray.data_append]
/-- what Text of an event returns -/
def etRet (e : Ev) : Ending := if e.ok then .returned (.tuple #[.string ⟨e.tx.toArray⟩, .int .i64 0]) else .returned (.tuple #[.string ⟨#[]⟩, .int .i64 1])
theorem etRet_no {e : Ev} (h : e.ok = false) : etRet e = .returned (.tuple #[.string ⟨#[]⟩, .int .i64 1]) := by unfold etRet; rw [h]; rfl
theorem etRet_yes {e : Ev} (h : e.ok = true) : etRet e = .returned (.tuple #[.string ⟨e.tx.toArray⟩, .int .i64 0]) := by unfold etRet; rw [h]; rfl
theorem ev_head (e : Ev) (h : e.ok = true) : 1 ≤ e.life ∧ e.life ≤ 6 ∧ 0 ≤ e.time ∧ e.time ≤ 1099511627776 ∧ e.d.length ≤ 8 := by
  unfold Ev.ok Ev.head at h
  simp only [Bool.and_eq_true, decide_eq_true_eq] at h
  exact h.1.2.2.2
theorem ev_field (e : Ev) (h : e.ok = true) (k : Nat) (hk : k < e.d.length) : e.d[k].v.ok = true := by
  unfold Ev.ok at h
  rw [Bool.and_eq_true] at h
  exact (fdsB_at e.d k hk h.2).2
set_option maxHeartbeats 6400000 in
set_option maxRecDepth 100000 in
theorem etext_any (e : Ev) (A : Option Addr) (n cap : Nat) (w : World) (hT : Tb w) (h : FdIn w A e.d) (hn : e.d.length = n) (hn2 : n ≤ 1000000) (hf : e.fit 9223372036854775000) :
    Calls Tryz.prog 9 #[.agg #[.string e.c, .string e.a, .string e.r, .int .i64 e.life, .int .i64 e.time, .slice A n cap]] w fun x w' => x = etRet e ∧ Below w.heap.size w w' := by
  have HX := Lib.hid (fun w h => evalid_any e A n cap w h hn hn2 hf)
  have HO := Lib.hid (below_alloc w (.cells #[.string e.c, .string e.a, .string e.r, .int .i64 e.life, .int .i64 e.time, .slice A n cap] 24))
  have HE0 := Lib.hid (EB.new w e A n cap)
  have H0 := Lib.hid h
  have HT := Lib.hid (hT.below HO.out)
  have HTE := Lib.hid (fun wx (h : Below w.heap.size w wx) => hT.below h)
  clear hT h
  cases hv : e.ok with
  | false =>
    have HR := Lib.hid (etRet_no hv)
    rw [hv] at HX
    clear hv hf hn
    go_enter Tryz.func9, Tryz.ntmps9
    go_wp2_with fail
    ((with_reducible refine (HX.out _ (H0.out.below HO.out)).mono ?_); rintro x w1 ⟨rfl, hb1⟩)
    go_wp2_with fail
    go_ret2
    exact ⟨HR.out.symm, below_then HO.out hb1⟩
  | true =>
    have HR := Lib.hid (etRet_yes hv)
    obtain ⟨hl1, hl6, ht0, ht1, hd8⟩ := ev_head e hv
    have HV := Lib.hid (fun k hk => ev_field e hv k hk)
    have HWS := Lib.hid (ws_ok e hv)
    have HTB := Lib.hid (textB_ws e)
    have HTS := Lib.hid (textB_succ e)
    have hTL := textB_len e
    have HTZ := Lib.hid (textB_zero e)
    have HTL := Lib.hid hTL
    have HFF := Lib.hid hf.2.2.2
    rw [hv] at HX
    have HN := Lib.hid hn
    have hn8 : n ≤ 8 := by omega
    obtain ⟨i0, hi, hz0, hz1, hz2⟩ := info_parts strInfo
    have HI := Lib.hid (And.intro hi (And.intro hz0 (And.intro hz1 hz2)))
    clear hv hf hn hi hz0 hz1 hz2 hTL hd8
    go_enter Tryz.func9, Tryz.ntmps9
    go_wp2_with fail
    ((with_reducible refine (HX.out _ (H0.out.below HO.out)).mono ?_); rintro x w1 ⟨rfl, hb1⟩)
    have HT1 := Lib.hid (HT.out.below hb1)
    have HE1 := Lib.hid (HE0.out.below hb1)
    have HB1 := Lib.hid (below_then HO.out hb1)
    have HZ1 := HE1.out.lt
    clear hb1 HX HT HE0
    go_wp2_with fail
    go_cut [4] (fun s4 wx => ∃ v, s4 = v ∧ TSt w wx v (textB e 0) e A n cap)
    case first =>
      obtain ⟨c0, c1, c2, c3, c4, c5⟩ := HE1.out.cells
      have k2 : e.life - 1 < 6 := by omega
      have k3 : 0 ≤ e.life - 1 := by omega
      have k1 : IntKind.i64.wrap (e.life - 1) = e.life - 1 := IntWalk.i64_in _ (by omega)
      have hS0 : w1.cell? ⟨w.heap.size, 0, none⟩ = some (.string e.c) ∧ w1.cell? ⟨w.heap.size, 1, none⟩ = some (.string e.a) ∧ w1.cell? ⟨w.heap.size, 2, none⟩ = some (.string e.r) ∧ w1.cell? ⟨w.heap.size, 3, none⟩ = some (.int .i64 e.life) ∧ w1.cell? ⟨w.heap.size, 4, none⟩ = some (.int .i64 e.time) := ⟨c0, c1, c2, c3, c4⟩
      refine wp_region_held_drew (S := fun w' => w'.cell? ⟨w.heap.size, 0, none⟩ = some (.string e.c) ∧ w'.cell? ⟨w.heap.size, 1, none⟩ = some (.string e.a) ∧ w'.cell? ⟨w.heap.size, 2, none⟩ = some (.string e.r) ∧ w'.cell? ⟨w.heap.size, 3, none⟩ = some (.int .i64 e.life) ∧ w'.cell? ⟨w.heap.size, 4, none⟩ = some (.int .i64 e.time)) (by kernel_rfl) hS0 (fun hHeld => ?_)
      refine wpAnyH_take (i := 0) (v := ?_) rfl (by kernel_rfl) (by kernel_rfl) (by kernel_rfl) (fun _ _ _ h => h) (Or.inl ⟨by rfl, ?_⟩) (by assumption) ?_
      rotate_left
      · intro w hSw; (try dsimp only at hSw); go_simp; try (with_reducible rfl)
      try go_simp
      refine wpAnyH_take (i := 1) (v := ?_) rfl (by kernel_rfl) (by kernel_rfl) (by kernel_rfl) (fun _ _ _ h => h) (Or.inl ⟨by rfl, ?_⟩) (by assumption) ?_
      rotate_left
      · intro w hSw; (try dsimp only at hSw); go_simp; try (with_reducible rfl)
      try go_simp
      refine wpAnyH_take (i := 2) (v := ?_) rfl (by kernel_rfl) (by kernel_rfl) (by kernel_rfl) (fun _ _ _ h => h) (Or.inl ⟨by rfl, ?_⟩) (by assumption) ?_
      rotate_left
      · intro w hSw; (try dsimp only at hSw); go_simp; try (with_reducible rfl)
      try go_simp
      refine wpAnyH_take (i := 3) (v := ?_) rfl (by kernel_rfl) (by kernel_rfl) (by kernel_rfl) (fun _ _ _ h => h) (Or.inl ⟨by rfl, ?_⟩) (by assumption) ?_
      rotate_left
      · intro w hSw; (try dsimp only at hSw); go_simp; try (with_reducible rfl)
      try go_simp
      refine wpAnyH_take (i := 4) (v := ?_) rfl (by kernel_rfl) (by kernel_rfl) (by kernel_rfl) (fun _ _ _ h => h) (Or.inl ⟨by rfl, ?_⟩) (by assumption) ?_
      rotate_left
      · intro w hSw; (try dsimp only at hSw); go_simp; try (with_reducible rfl)
      try go_simp
      refine wpAnyH_take (i := 5) (v := ?_) rfl (by kernel_rfl) (by kernel_rfl) (by kernel_rfl) (fun _ _ _ h => h) (Or.inl ⟨by rfl, ?_⟩) (by assumption) ?_
      rotate_left
      · intro w hSw; (try dsimp only at hSw); go_simp; try (with_reducible rfl)
      try go_simp
      refine wpAnyH_take (i := 7) (v := ?_) rfl (by kernel_rfl) (by kernel_rfl) (by kernel_rfl) (fun _ _ _ h => h) (Or.inl ⟨by rfl, ?_⟩) (by assumption) ?_
      rotate_left
      · intro w hSw; (try dsimp only at hSw); go_simp; try (with_reducible rfl)
      try go_simp
      refine wpAnyH_take (i := 8) (v := ?_) rfl (by kernel_rfl) (by kernel_rfl) (by kernel_rfl) (fun _ _ _ h => h) (Or.inl ⟨by rfl, ?_⟩) (by assumption) ?_
      rotate_left
      · intro w hSw; (try dsimp only at hSw); go_simp; try (with_reducible rfl)
      try go_simp
      refine wpAnyH_take (i := 9) (v := ?_) rfl (by kernel_rfl) (by kernel_rfl) (by kernel_rfl) (fun _ _ _ h => h) (Or.inl ⟨by rfl, ?_⟩) (by assumption) ?_
      rotate_left
      · intro w hSw; (try dsimp only at hSw); go_simp; try (with_reducible rfl)
      try go_simp
      refine wpAnyH_take (i := 12) (v := ?_) rfl (by kernel_rfl) (by kernel_rfl) (by kernel_rfl) (fun _ _ _ h => h) (Or.inl ⟨by rfl, ?_⟩) (by assumption) ?_
      rotate_left
      · intro w hSw; (try dsimp only at hSw); go_simp; try (with_reducible rfl)
      try go_simp
      refine wpAnyH_take (i := 13) (v := ?_) rfl (by kernel_rfl) (by kernel_rfl) (by kernel_rfl) (fun _ _ _ h => h) (Or.inl ⟨by rfl, ?_⟩) (by assumption) ?_
      rotate_left
      · intro w hSw; (try dsimp only at hSw); go_simp; try (with_reducible rfl)
      try go_simp
      refine wpAnyH_ready (rs := [6]) (by kernel_rfl) (by simp) ?_
      refine AllReadyH.cons rfl (fun K hK => ?_) AllReadyH.nil
      go_simp
      ((refine (ewords_any _).mono ?_); rintro x wk ⟨g, rfl, hg, cg, hbk⟩; have hbq : Below w1.heap.size w1 wk := ⟨hbk.os, hbk.tape, hbk.output, hbk.size, hbk.block⟩; obtain ⟨d0, d1, d2, d3, d4, d5⟩ := (HE1.out.below hbq).cells; have cw := cg e.life hl1 hl6; clear cg hbk c0 c1 c2 c3 c4 c5)
      refine hK.out _ _ (⟨d0, d1, d2, d3, d4⟩) (fun hHeld => ?_)
      clear hK K
      try go_simp
      have hS1 : wk.cell? ⟨g, e.life.toNat - 1, none⟩ = some (.string (lifeB e.life)) ∧ wk.cell? ⟨w.heap.size, 0, none⟩ = some (.string e.c) ∧ wk.cell? ⟨w.heap.size, 1, none⟩ = some (.string e.a) ∧ wk.cell? ⟨w.heap.size, 2, none⟩ = some (.string e.r) ∧ wk.cell? ⟨w.heap.size, 3, none⟩ = some (.int .i64 e.life) ∧ wk.cell? ⟨w.heap.size, 4, none⟩ = some (.int .i64 e.time) := ⟨cw, d0, d1, d2, d3, d4⟩
      refine wpAnyH_mono (S' := fun w' => w'.cell? ⟨g, e.life.toNat - 1, none⟩ = some (.string (lifeB e.life)) ∧ w'.cell? ⟨w.heap.size, 0, none⟩ = some (.string e.c) ∧ w'.cell? ⟨w.heap.size, 1, none⟩ = some (.string e.a) ∧ w'.cell? ⟨w.heap.size, 2, none⟩ = some (.string e.r) ∧ w'.cell? ⟨w.heap.size, 3, none⟩ = some (.int .i64 e.life) ∧ w'.cell? ⟨w.heap.size, 4, none⟩ = some (.int .i64 e.time)) (fun _ h => h.2) _ _ _ _ ?_
      clear hHeld hS0
      refine wpAnyH_take (i := 10) (v := ?_) rfl (by kernel_rfl) (by kernel_rfl) (by kernel_rfl) (fun _ _ _ h => h) (Or.inl ⟨by rfl, ?_⟩) (by assumption) ?_
      rotate_left
      · intro w hSw; (try dsimp only at hSw); go_simp; try (with_reducible rfl)
      try go_simp
      refine wpAnyH_take (i := 11) (v := ?_) rfl (by kernel_rfl) (by kernel_rfl) (by kernel_rfl) (fun _ _ _ h => h) (Or.inl ⟨by rfl, ?_⟩) (by assumption) ?_
      rotate_left
      · intro w hSw; (try dsimp only at hSw); go_simp; try (with_reducible rfl)
      try go_simp
      refine wpAnyH_ready (rs := [14]) (by kernel_rfl) (by simp) ?_
      refine AllReadyH.cons rfl (fun K hK => ?_) AllReadyH.nil
      go_simp
      ((refine (itoa_any _ _ (by omega) (by omega) (HT1.out.below hbq)).mono ?_); rintro x wm ⟨rfl, hbm⟩; have hbr : Below wk.heap.size wk wm := ⟨hbm.os, hbm.tape, hbm.output, hbm.size, hbm.block⟩; have hS2 := And.intro (cell_stays hbr cw) (And.intro (cell_stays hbr d0) (And.intro (cell_stays hbr d1) (And.intro (cell_stays hbr d2) (And.intro (cell_stays hbr d3) (cell_stays hbr d4))))); clear hbm)
      refine hK.out _ _ (hS2) (fun hHeld => ?_)
      clear hK K
      try go_simp
      clear hHeld hS1
      obtain ⟨x0, x1, x2, x3, x4, x5⟩ := hS2
      refine wpAnyH_ready (rs := [15]) (by kernel_rfl) (by simp) ?_
      refine AllReadyH.cons rfl (fun K hK => ?_) AllReadyH.nil
      go_simp
      skip
      refine hK.out _ _ (⟨cell_stays (below_alloc _ _) x0, cell_stays (below_alloc _ _) x1, cell_stays (below_alloc _ _) x2, cell_stays (below_alloc _ _) x3, cell_stays (below_alloc _ _) x4, cell_stays (below_alloc _ _) x5⟩) (fun hHeld => ?_)
      clear hK K
      try go_simp
      have hS3 := hHeld
      refine wpAnyH_ready (rs := [16]) (by kernel_rfl) (by simp) ?_
      refine AllReadyH.cons rfl (fun K hK => ?_) AllReadyH.nil
      go_simp
      skip
      refine hK.out _ _ (hS3) (fun hHeld => ?_)
      clear hK K
      try go_simp
      refine wpAnyH_done (by kernel_rfl) ?_ _
      go_wp2_with fail
      go_meet
      refine ⟨_, rfl, ?_⟩
      rw [HTZ.out]
      exact TSt.lit ((HE1.out.below hbq).below hbr) (below_then (below_then HB1.out hbq) hbr) _ _ _ _ _
    case rest =>
      obtain ⟨v, rfl, hS⟩ := hcut
      have HS0 := Lib.hid hS
      obtain ⟨A4, c4, rfl⟩ := hS.slice
      obtain ⟨c0, c1, c2, c3, c4', c5⟩ := hS.eb.cells
      clear hS c0 c1 c2 c3 c4'
      go_wp2_with fail
      clear c5
      go_loopg [4, 31] (n) (fun g v i wr => ∃ k : Nat, k + g = n ∧ i = .int .i64 k ∧ TSt w wr v (textB e k) e A n cap)
      case atStart => exact ⟨0, by omega, rfl, HS0.out⟩
      case round =>
        obtain ⟨k, hk, rfl, hS⟩ := hrel
        have HS := Lib.hid hS
        have HK := Lib.hid hk
        obtain ⟨A5, c6, rfl⟩ := hS.slice
        have hlen := HTL.out k
        have hle : k ≤ n := by omega
        clear hk hS HS0
        by_cases hlt : k < n
        · have hlt' : k < e.d.length := by rw [HN.out]; exact hlt
          have hbw : Below w.heap.size w wr := HS.out.bel
          obtain ⟨ad, rfl, hp, c0, c1, c2, c3⟩ := (H0.out.below hbw) k hlt'
          have HSU := Lib.hid (HTS.out k hlt')
          have HVO := Lib.hid (HV.out k hlt')
          have HFX := Lib.hid (HFF.out _ (List.getElem_mem hlt'))
          have HTW := Lib.hid (HT1.out)
          generalize e.d[k] = x at *
          obtain ⟨xn, xv⟩ := x
          obtain ⟨xk, xi, xs⟩ := xv
          simp only at *
          clear hbw hlt'
          generalize textB e k = L at *
          go_wp2_with fail
          have HA := Lib.hid (below_alloc wr (.cells #[.string xn, .int .i64 xk, .int .i64 xi, .string xs] 49))
          have HB2 := Lib.hid (below_then HS.out.bel HA.out)
          have HT2 := Lib.hid (show Tb (wr.alloc (.cells #[.string xn, .int .i64 xk, .int .i64 xi, .string xs] 49)) from HTE.out _ HB2.out)
          have HX2 := Lib.hid (vtx_any ⟨xk, xi, xs⟩ (wr.alloc (.cells #[.string xn, .int .i64 xk, .int .i64 xi, .string xs] 49)) HT2.out (by have := HFX.out.2; show xs.size ≤ _; omega))
          rw [vtRet_yes HVO.out] at HX2
          have k0 : (wr.alloc (.cells #[.string xn, .int .i64 xk, .int .i64 xi, .string xs] 49)).cell? ⟨wr.heap.size, 0, none⟩ = some (.string xn) := by simp
          have K0 := Lib.hid k0
          have HTX := Lib.hid (tx_cat ⟨xn, ⟨xk, xi, xs⟩⟩)
          have HVL := Lib.hid (val_pr _ HVO.out)
          have HS1 := Lib.hid (HS.out.below HA.out)
          generalize wr.alloc (.cells #[.string xn, .int .i64 xk, .int .i64 xi, .string xs] 49) = wa at *
          generalize (⟨xk, xi, xs⟩ : Vl).tx = tx at *
          simp only at HTX
          obtain ⟨y, hy⟩ : ∃ y : ByteArray, y = ⟨tx.toArray⟩ := ⟨_, rfl⟩
          rw [← hy] at HTX HX2
          have hyl : y.size ≤ 402 := by rw [← len_byte, hy]; exact HVL.out.2
          have hyl2 : (y.size : Int) ≤ 402 := by omega
          have hxl : (xn.size : Int) ≤ 9223372036854775000 := by have := HFX.out.1; omega
          clear hy k0 c0 c1 c2 c3
          ((with_reducible refine HX2.out.mono ?_); rintro x w2 ⟨rfl, hb2⟩)
          have k1 := cell_stays hb2 K0.out
          have HS2 := Lib.hid (HS1.out.below hb2)
          clear hb2
          have hsz2 : w.heap.size + 1 ≤ w2.heap.size := HS2.out.size
          go_wp2_with (at_builtin; refine wpList_append_own _ rfl _ _ 61 rfl (w.heap.size + 1) 9 i0 (.string ⟨#[]⟩) 1 16 Tryz.underlying61 HI.out.1 HI.out.2.1 HI.out.2.2.1 HI.out.2.2.2 rfl (by decide) (.slice A5 L.length c6) _ _ rfl (HS2.out.own.alloc _) ⟨w2.heap.size, 0, none⟩ 1 1 [.string (xn ++ (⟨#[61]⟩ : ByteArray) ++ y)] rfl rfl ?c1 ?c2 ?c3 ?c4 ?c5 ?_)
          case c1 => intro j u hj; match j, hj with | 0, hj => simp at hj; subst hj; simp [Addr.add] | j + 1, hj => simp at hj
          case c2 => intro u hu; simp at hu; subst hu; rfl
          case c3 => unfold maxLen; omega
          case c4 => omega
          case c5 => simp; omega
          intro v' w4 hown4 hgrow4 _
          replace HS := Lib.hid (HS2.out.push hown4 hgrow4)
          rw [HTX.out] at HS
          clear hown4 hgrow4
          go_wp2_with fail
          go_roundg (gk - 1)
          case measure => have := HK.out; omega
          case rel => exact ⟨k + 1, by have := HK.out; omega, by go_num, by rw [HSU.out]; exact HS.out⟩
        · obtain rfl : k = n := by omega
          have HSI := Lib.hid (own_sin HS.out.own)
          have HLW := Lib.hid (show (textB e k).map (·.data.toList) = e.ws by rw [← HTB.out, HN.out])
          have HJ := Lib.hid (fun h => njoin_ok A5 (textB e k).length c6 (textB e k) wr h rfl (by unfold textB; simp) (by omega) (by
              intro t ht
              have h1 := HWS.out.2.1 t.data.toList (by rw [← HLW.out]; exact List.mem_map_of_mem ht)
              rw [len_byte] at h1; omega) (by
              intro t ht
              exact HWS.out.1 t.data.toList (by rw [← HLW.out]; exact List.mem_map_of_mem ht)) (by rw [HLW.out]; exact HWS.out.2.2.2.2))
          rw [HLW.out] at HJ
          generalize textB e k = L at *
          have HBL := Lib.hid HS.out.bel
          go_wp2_with fail
          ((with_reducible refine (HJ.out (by obtain ⟨A', c', hv, hin⟩ := HSI.out; cases hv; exact hin.1)).mono ?_); rintro x w2 ⟨rfl, hb2⟩)
          go_wp2_with fail
          go_ret2
          exact ⟨by rw [HR.out]; rfl, below_then HBL.out hb2⟩
end Go.Proofs.YtbbdgncjpbfooaaGreatDoor
