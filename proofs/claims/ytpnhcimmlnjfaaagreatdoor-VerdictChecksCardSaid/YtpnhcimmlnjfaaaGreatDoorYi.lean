/- Reverse of reference 21: what a call returns. -/
import Derived.Test.YtpnhcimmlnjfaaaGreatDoorYh
namespace Go.Proofs.YtpnhcimmlnjfaaaGreatDoor
open Go.Lib (hid)
open Go.RowKit

/-- two operations may come up -/
theorem wpAnyE_two {P : Program} {ops : Array Oper} {Q : Exit → Act → World → Prop} {md : Region.Mode} {S : World → Prop} {last : Nat} {i j : Nat} {o o' : Oper} {fuel : Nat} {listed : Array Bool} {a : Act} {w : World} (hr : Region.ready md ops listed = [i, j]) (ho : ops[i]? = some o) (ho' : ops[j]? = some o')
 (h : ∀ K' : Act → World → Prop, Shut (∀ a w, (i ≠ last → S w) → ((i ≠ last → S w) → wpAnyE P md ops Q S last fuel (listed.setIfInBounds i true) a w) → K' a w) → if Region.wanted o (yielded ops a.tmps) = true then Oper.wp P o a w K' Q else K' (a.put o.dst undef) w)
 (h' : ∀ K' : Act → World → Prop, Shut (∀ a w, (j ≠ last → S w) → ((j ≠ last → S w) → wpAnyE P md ops Q S last fuel (listed.setIfInBounds j true) a w) → K' a w) → if Region.wanted o' (yielded ops a.tmps) = true then Oper.wp P o' a w K' Q else K' (a.put o'.dst undef) w) : wpAnyE P md ops Q S last (fuel + 1) listed a w := by
 refine ⟨fun h0 => (by rw [hr] at h0; cases h0), fun k hk => ?_⟩
 rw [hr] at hk
 have hk' : k = i ∨ k = j := by simpa using hk
 rcases hk' with rfl | rfl
 · exact wpOp_step ho (fun K' hK => h K' (fun a w hS hW => hK a w ⟨hS, hW hS⟩))
 · exact wpOp_step ho' (fun K' hK => h' K' (fun a w hS hW => hK a w ⟨hS, hW hS⟩))
/-- an append of numbers that are read, nil let in, at a step of a region that draws its order -/
theorem step_append_zin {P : Program} {w : World} {ops : Array Oper} {o : Oper} {a : Act} {K : Act → World → Prop} {Q : Exit → Act → World → Prop} {E : Prop} (hgd : o.guard = none) (s x : Operand) (t : TypeId)
 (ho : o.op = .call { callee := .builtin .append, args := #[s, x], argTypes := #[t, t] })
 (base : Nat) (e : TypeId) (i : TypeInfo) (z : Value) (bytes : Nat) (ht : P.underlying t = some (.slice e)) (hi : P.info? e = some i) (hz : i.zero = some z)
 (hsize : i.size = 1) (hby : i.bytes = bytes) (hzs : z.cells.size = 1)
 (v : Value) (n : Nat) (xs : List Value) (hs : a.eval s = v) (hown : w.ownsRow base e 1 v n xs)
 (A : Option Addr) (m c : Nat) (M : List Int) (hx : a.eval x = .slice A m c) (hr : ZIn w A M) (hm : M.length = m)
 (h63 : n + m ≤ maxLen) (hbytes : (n + m) * bytes ≤ 140737488355328) (hbase : base ≤ w.heap.size)
 (h : ∀ v' w', w'.ownsRow base e 1 v' (n + m) (xs ++ M.map (Value.int .i64)) → w.grownBy w' v.ownBlock → K (a.put o.dst v') w') :
 if Region.wanted o (yielded ops a.tmps) = true then Oper.wp P o a w K Q else E := by
 have hw : Region.wanted o (yielded ops a.tmps) = true := by simp [Region.wanted, hgd]
 rw [if_pos hw]
 cases A with
 | some ad => exact wp_append_own w s x t ho base e i z 1 bytes ht hi hz hsize hby hzs (by decide) v n xs hs hown ad m c (M.map (Value.int .i64)) hx (by simp [hm]) (by rw [← intC_map]; exact Rd.news intC_len (by decide) (rd_of_z hr)) (by intro u hu; obtain ⟨y, _, rfl⟩ := List.mem_map.1 hu; rfl) h63 hbytes hbase fun v' w' h2 h3 _ => h v' w' h2 h3
 | none =>
  have hM : M = [] := by
   cases M with
   | nil => rfl
   | cons y M => obtain ⟨ad, e, _⟩ := hr 0 (by simp); cases e
  subst hM
  obtain rfl : m = 0 := hm.symm
  unfold Oper.wp execOp
  simp only [ho, resolve, invoke, builtin, Sem.run_bind, Sem.run_pure, Result.andThen_ok, List.map_toArray, List.map_cons, List.map_nil, hs, hx, run_append_nils ht hi hown c]
  exact h v w (by simpa using hown) ⟨rfl, rfl, rfl, Nat.le_refl _, fun _ _ _ => rfl⟩
/-- a row of numbers in memory, by its block -/
def IRw (w : World) (u : Value) (l : List Int) : Prop := ∃ A c, u = .slice A l.length c ∧ l.length ≤ c ∧ c ≤ 9223372036854775807 ∧ (l = [] ∨ ∃ g cs fr, A = some ⟨g, 0, none⟩ ∧ w.heap[g]? = some (.cells cs 3 fr) ∧ ∀ i (h : i < l.length), cs[i]? = some (.int .i64 l[i]))
theorem IRw.sl {w : World} {u : Value} {l : List Int} (h : IRw w u l) : SlIn w u l := by
 obtain ⟨A, c, rfl, h1, h2, h3⟩ := h
 refine ⟨A, l.length, c, rfl, fun i hi => ?_, rfl, h1, h2⟩
 rcases h3 with rfl | ⟨g, cs, fr, rfl, hg, hc⟩
 · simp at hi
 · refine ⟨_, rfl, by rw [add_block]; exact (Array.getElem?_eq_some_iff.1 hg).1, ?_⟩
   rw [add_zero, Nat.zero_add, Lib.cell_of_heap hg]
   exact hc i hi
theorem IRw.keep {w w' : World} {u : Value} {l : List Int} (h : IRw w u l) (hk : ∀ (g : Nat) (cs : Array Value) (fr : Nat × Nat), w.heap[g]? = some (.cells cs 3 fr) → 0 < cs.size → w'.heap[g]? = w.heap[g]?) : IRw w' u l := by
 obtain ⟨A, c, rfl, h1, h2, h3⟩ := h
 refine ⟨A, c, rfl, h1, h2, ?_⟩
 rcases h3 with rfl | ⟨g, cs, fr, rfl, hg, hc⟩
 · exact .inl rfl
 · by_cases h0 : l = []
   · exact .inl h0
   · have hp : 0 < l.length := List.length_pos_iff.2 h0
     have h4 := hc 0 hp
     refine .inr ⟨g, cs, fr, rfl, by rw [hk g cs fr hg ((Array.getElem?_eq_some_iff.1 h4).1)]; exact hg, hc⟩
theorem IRw.below {w w' : World} {u : Value} {l : List Int} (h : IRw w u l) (hb : Below w.heap.size w w') : IRw w' u l :=
 h.keep fun g _ _ hg _ => hb.block g (Array.getElem?_eq_some_iff.1 hg).1
/-- while a row that had nothing is grown -/
theorem IRw.grown {w w' : World} {u : Value} {l : List Int} (h : IRw w u l) {a : Nat} {fr : Nat × Nat} (ha : w.heap[a]? = some (.cells #[] 3 fr)) (hg : w.grownBy w' (some a)) : IRw w' u l :=
 h.keep fun g cs fr' hgg hs => hg.block g (Array.getElem?_eq_some_iff.1 hgg).1 (fun e => by
  cases e
  rw [ha] at hgg
  injection hgg with hgg
  injection hgg with h1 _ _
  subst h1
  simp at hs)
theorem IRw.of_own {w : World} {b n : Nat} {v : Value} {l : List Int} (h : w.ownsRow b 3 1 v n (l.map (Value.int .i64))) (hn : l.length = n) : IRw w v l := by
 subst hn
 rcases h.2 with ⟨rfl, h0⟩ | ⟨g, cap, cur, rfl, _, hg, h1, h2, _, h4⟩
 · exact ⟨none, 0, by rw [h0], by omega, by omega, .inl (List.length_eq_zero_iff.1 h0)⟩
 · refine ⟨_, cap, rfl, h1, h2, .inr ⟨g, cur, _, rfl, hg, fun i hi => ?_⟩⟩
   have h5 : (cur.toList.take (l.length * 1))[i]? = (l.map (Value.int .i64))[i]? := by rw [h4]
   rw [List.getElem?_take_of_lt (by omega), List.getElem?_map, List.getElem?_eq_getElem hi] at h5
   rw [← Array.getElem?_toList, h5]; rfl
/-- a transition's three cells -/
structure T3 where
 lb : ByteArray
 a : Value
 b : Value
def c3 (x : T3) : List Value := [.string x.lb, x.a, x.b]
theorem c3_len (x : T3) : (c3 x).length = 3 := rfl
/-- transitions of one's own -/
def OTr (w0 wr : World) (v : Value) (L : List Tr) : Prop :=
 ∃ SL : List T3, wr.ownsRow w0.heap.size 45 3 v L.length (SL.flatMap c3) ∧ SL.length = L.length ∧ (∀ (k : Nat) (u : T3) (t : Tr), SL[k]? = some u → L[k]? = some t → u.lb = t.lb ∧ IRw wr u.a t.i ∧ IRw wr u.b t.o) ∧ Below w0.heap.size w0 wr
theorem OTr.start {w0 wr : World} (hb : Below w0.heap.size w0 wr) : OTr w0 wr (.slice none 0 0) [] := ⟨[], World.ownsRow_nil _ _ _ _, rfl, fun k u s h => by simp at h, hb⟩
theorem OTr.bel {w0 wr : World} {v : Value} {L : List Tr} (h : OTr w0 wr v L) : Below w0.heap.size w0 wr := by obtain ⟨_, _, _, _, h4⟩ := h; exact h4
theorem OTr.below {w0 wr w' : World} {v : Value} {L : List Tr} (h : OTr w0 wr v L) (hb : Below wr.heap.size wr w') : OTr w0 w' v L := by
 obtain ⟨SL, h1, h2, h3, h4⟩ := h
 exact ⟨SL, own_stays h1 hb, h2, fun k u t hk ht => ⟨(h3 k u t hk ht).1, (h3 k u t hk ht).2.1.below hb, (h3 k u t hk ht).2.2.below hb⟩, below_then h4 hb⟩
theorem irw_box {w : World} {u : Value} {l : List Int} (h : IRw w u l) {b o : Nat} {cs : Array Value} {T : TypeId} {fr : Nat × Nat} (hb : w.heap[b]? = some (.cells cs T fr)) (h1 : 3 ≠ T) (x : Value) : IRw (w.setCell ⟨b, o, none⟩ x) u l :=
 h.keep fun g cs' fr' hg _ => (Lib.grownBy_setB (grown_refl w (some b)) o x).block g (Array.getElem?_eq_some_iff.1 hg).1 (fun e => by
  cases e
  rw [hb] at hg
  injection hg with hg
  injection hg with _ h2 _
  exact h1 h2.symm)
theorem OTr.box {w0 wr : World} {v : Value} {L : List Tr} (h : OTr w0 wr v L) {b o : Nat} {cs : Array Value} {T : TypeId} (hb : wr.heap[b]? = some (.cells cs T (0, 0))) (h1 : 45 ≠ T) (h2 : 3 ≠ T) (h3 : w0.heap.size ≤ b) (x : Value) : OTr w0 (wr.setCell ⟨b, o, none⟩ x) v L := by
 obtain ⟨SL, a1, a2, a3, a4⟩ := h
 have hset : wr.grownBy (wr.setCell ⟨b, o, none⟩ x) (some b) := Lib.grownBy_setB (grown_refl wr (some b)) o x
 have h5 : ∀ k, some b = some k → w0.heap.size ≤ k := fun k hk => by cases hk; exact h3
 exact ⟨SL, a1.kept hset (own_other a1 hb h1), a2, fun k u t hk ht => ⟨(a3 k u t hk ht).1, irw_box (a3 k u t hk ht).2.1 hb h2 x, irw_box (a3 k u t hk ht).2.2 hb h2 x⟩, a4.grown hset a4.size h5⟩
theorem OTr.box4 {w0 wr : World} {v : Value} {L : List Tr} (h : OTr w0 wr v L) {b : Nat} {cs : Array Value} (hb : wr.heap[b]? = some (.cells cs 24 (0, 0))) (h3 : w0.heap.size ≤ b) (x0 x1 x2 x3 : Value) : OTr w0 ((((wr.setCell ⟨b, 0, none⟩ x0).setCell ⟨b, 1, none⟩ x1).setCell ⟨b, 2, none⟩ x2).setCell ⟨b, 3, none⟩ x3) v L :=
 (((h.box hb (by decide) (by decide) h3 x0).box (heap_set2 hb) (by decide) (by decide) h3 x1).box (heap_set2 (heap_set2 hb)) (by decide) (by decide) h3 x2).box (heap_set2 (heap_set2 (heap_set2 hb))) (by decide) (by decide) h3 x3
theorem irw_row {w w' : World} {u v : Value} {l : List Int} (h : IRw w u l) {b n : Nat} {xs : List Value} (h1 : w.ownsRow b 45 3 v n xs) (hg : w.grownBy w' v.ownBlock) : IRw w' u l :=
 h.keep fun g cs' fr' hgg _ => hg.block g (Array.getElem?_eq_some_iff.1 hgg).1 (fun e => by
  rcases h1.2 with ⟨rfl, _⟩ | ⟨g', cap, cur, rfl, _, hh, _⟩
  · cases e
  · have : g = g' := by simpa [Value.ownBlock] using e
    subst this
    rw [hh] at hgg
    injection hgg with hgg
    injection hgg with _ h2 _
    exact absurd h2 (by decide))
theorem OTr.push {w0 wr w' : World} {v v' : Value} {L : List Tr} {SL : List T3} (h1 : wr.ownsRow w0.heap.size 45 3 v L.length (SL.flatMap c3)) (h2 : SL.length = L.length) (h3 : ∀ (k : Nat) (u : T3) (t : Tr), SL[k]? = some u → L[k]? = some t → u.lb = t.lb ∧ IRw wr u.a t.i ∧ IRw wr u.b t.o) (h4 : Below w0.heap.size w0 wr)
 {x : T3} {t : Tr} (hx : x.lb = t.lb ∧ IRw wr x.a t.i ∧ IRw wr x.b t.o) (ho : w'.ownsRow w0.heap.size 45 3 v' (L.length + 1) (SL.flatMap c3 ++ c3 x)) (hg : wr.grownBy w' v.ownBlock) : OTr w0 w' v' (L ++ [t]) := by
 have hb5 : ∀ k, v.ownBlock = some k → w0.heap.size ≤ k := fun k hk => (h1.lt k hk).1
 refine ⟨SL ++ [x], ?_, by rw [List.length_append, List.length_append, h2]; rfl, fun k y s hk ht => ?_, h4.grown hg h4.size hb5⟩
 · rw [List.length_append, List.flatMap_append]
   have : [x].flatMap c3 = c3 x := by simp
   rw [this]; exact ho
 rcases Nat.lt_or_ge k SL.length with hl | hl
 · rw [List.getElem?_append_left hl] at hk
   rw [List.getElem?_append_left (by rw [← h2]; exact hl)] at ht
   obtain ⟨e1, e2, e3⟩ := h3 k y s hk ht
   exact ⟨e1, irw_row e2 h1 hg, irw_row e3 h1 hg⟩
 · rw [List.getElem?_append_right hl] at hk
   rw [List.getElem?_append_right (by rw [← h2]; exact hl)] at ht
   rcases Nat.eq_zero_or_pos (k - SL.length) with h0 | h0
   · rw [h0] at hk
     rw [← h2, h0] at ht
     simp at hk ht
     subst hk ht
     exact ⟨hx.1, irw_row hx.2.1 h1 hg, irw_row hx.2.2 h1 hg⟩
   · rw [List.getElem?_eq_none (by simp; omega)] at hk; cases hk
/-- they read as transitions -/
theorem OTr.tin {w0 wr : World} {v : Value} {L : List Tr} (h : OTr w0 wr v L) : ∃ A c, v = .slice A L.length c ∧ TIn wr A L := by
 obtain ⟨SL, h1, h2, h3, _⟩ := h
 obtain ⟨A, c, rfl, _, _, _, hrd, _⟩ := own_rd c3_len (by decide) h1
 refine ⟨A, c, rfl, fun i hi => ?_⟩
 have hi2 : i < SL.length := by omega
 obtain ⟨ad, e, hb, hc⟩ := hrd i hi2
 obtain ⟨e1, e2, e3⟩ := h3 i SL[i] L[i] (List.getElem?_eq_getElem hi2) (List.getElem?_eq_getElem hi)
 refine ⟨ad, e, hb, ?_, ⟨_, ?_, e2.sl⟩, _, ?_, e3.sl⟩
 · have := hc 0 (.string SL[i].lb) (by omega) rfl
   rw [e1] at this; exact this
 · have := hc 1 SL[i].a (by omega) rfl
   rw [add_at _ _ _ (by omega)] at this; exact this
 · have := hc 2 SL[i].b (by omega) rfl
   rw [add_at _ _ _ (by omega)] at this; exact this
def revT (t : Tr) : Tr := ⟨t.lb, t.o, t.i⟩
theorem rev_step (L : List Tr) (k : Nat) (h : k < L.length) : (L.take (k + 1)).map revT = (L.take k).map revT ++ [revT L[k]] := by
 rw [List.take_succ_eq_append_getElem h, List.map_append]; rfl
theorem trsInfo : (Tryz.prog.info? 45).map (fun i => (i.zero, i.size, i.bytes)) = some (some (.agg #[.string ⟨#[]⟩, .slice none 0 0, .slice none 0 0]), 3, 64) := by kernel_rfl
/-- the block of the net that is made -/
def NtO (w : World) (b : Nat) (pl : Int) (v : Value) (src snk : Int) : Prop := w.heap[b]? = some (.cells #[.int .i64 pl, v, .int .i64 src, .int .i64 snk] 24 (0, 0))
theorem NtO.below {w w' : World} {b : Nat} {pl : Int} {v : Value} {src snk : Int} (h : NtO w b pl v src snk) (hb : Below w.heap.size w w') : NtO w' b pl v src snk := by
 unfold NtO; rw [hb.block b (Array.getElem?_eq_some_iff.1 h).1]; exact h
theorem NtO.lt {w : World} {b : Nat} {pl : Int} {v : Value} {src snk : Int} (h : NtO w b pl v src snk) : b < w.heap.size := (Array.getElem?_eq_some_iff.1 h).1
theorem NtO.cells {w : World} {b : Nat} {pl : Int} {v : Value} {src snk : Int} (h : NtO w b pl v src snk) : w.cell? ⟨b, 0, none⟩ = some (.int .i64 pl) ∧ w.cell? ⟨b, 1, none⟩ = some v ∧ w.cell? ⟨b, 2, none⟩ = some (.int .i64 src) ∧ w.cell? ⟨b, 3, none⟩ = some (.int .i64 snk) := by
 have h' : w.heap[b]? = _ := h
 simp [World.cell?, h']
theorem NtO.soft {w : World} {b : Nat} {pl : Int} {v : Value} {src snk : Int} (h : NtO w b pl v src snk) (o : Nat) : w.frozen? ⟨b, o, none⟩ = false := by
 have h' : w.heap[b]? = _ := h
 simp [World.frozen?, h']
theorem cell_heap {w w' : World} {b o : Nat} (h : w'.heap[b]? = w.heap[b]?) : w'.cell? ⟨b, o, none⟩ = w.cell? ⟨b, o, none⟩ := by unfold World.cell?; rw [h]
set_option maxHeartbeats 12800000 in
set_option maxRecDepth 100000 in
theorem reverse21_any (N : Nt) (A : Option Addr) (n c : Nat) (w : World) (h : TIn w A N.tr) (hn : N.tr.length = n) (hn60 : n ≤ 60) (hlen : ∀ t ∈ N.tr, t.i.length ≤ 1000 ∧ t.o.length ≤ 1000) :
 Calls Tryz.prog 114 #[.agg #[.int .i64 N.pl, .slice A n c, .int .i64 N.src, .int .i64 N.snk]] w fun e w' => ∃ A' c', e = .returned (.agg #[.int .i64 N.pl, .slice A' n c', .int .i64 N.snk, .int .i64 N.src]) ∧ TIn w' A' (N.tr.map revT) ∧ Below w.heap.size w w' := by
 have HB := hid (below_alloc w (.cells #[.int .i64 N.pl, .slice A n c, .int .i64 N.src, .int .i64 N.snk] 24))
 have HNb := hid (NB.new w N.pl A n c N.src N.snk)
 have HIn := hid (h.below HB.out)
 have HNl := hid hn
 have HLen := hid hlen
 obtain ⟨i0, hi, hz0, hz1, hz2⟩ := info_parts intInfo
 have HI := hid (And.intro hi (And.intro hz0 (And.intro hz1 hz2)))
 obtain ⟨i1, hj, hy0, hy1, hy2⟩ := info_parts trsInfo
 have HI1 := hid (And.intro hj (And.intro hy0 (And.intro hy1 hy2)))
 have hs0 : (w.alloc (.cells #[.int .i64 N.pl, .slice A n c, .int .i64 N.src, .int .i64 N.snk] 24)).heap.size = w.heap.size + 1 := by simp
 clear h hn hlen hi hz0 hz1 hz2 hj hy0 hy1 hy2
 go_enter Tryz.func114, Tryz.ntmps114
 go_wp2_with fail
 have HN0 := heap_alloc_new ((w.alloc (.cells #[.int .i64 N.pl, .slice A n c, .int .i64 N.src, .int .i64 N.snk] 24)).alloc (.cells #[.int .i64 0, .slice none 0 0, .int .i64 0, .int .i64 0] 24)) (.cells #[.int .i64 N.pl, .slice none 0 0, .int .i64 N.snk, .int .i64 N.src] 24)
 have HZ0 := heap_alloc_new (w.alloc (.cells #[.int .i64 N.pl, .slice A n c, .int .i64 N.src, .int .i64 N.snk] 24)) (.cells #[.int .i64 0, .slice none 0 0, .int .i64 0, .int .i64 0] 24)
 rw [World.size_alloc, hs0] at HN0
 rw [hs0] at HZ0
 have hb2 := two_boxes (w.alloc (.cells #[.int .i64 N.pl, .slice A n c, .int .i64 N.src, .int .i64 N.snk] 24)) (.cells #[.int .i64 0, .slice none 0 0, .int .i64 0, .int .i64 0] 24) (.cells #[.int .i64 N.pl, .slice none 0 0, .int .i64 N.snk, .int .i64 N.src] 24)
 have hb3 := below_alloc ((w.alloc (.cells #[.int .i64 N.pl, .slice A n c, .int .i64 N.src, .int .i64 N.snk] 24)).alloc (.cells #[.int .i64 0, .slice none 0 0, .int .i64 0, .int .i64 0] 24)) (.cells #[.int .i64 N.pl, .slice none 0 0, .int .i64 N.snk, .int .i64 N.src] 24)
 have HRb0 := hid (show NtO _ (w.heap.size + 1) 0 (.slice none 0 0) 0 0 from (NtO.below (show NtO _ (w.heap.size + 1) 0 (.slice none 0 0) 0 0 from HZ0) hb3))
 have HNo0 := hid (show NtO _ (w.heap.size + 1 + 1) N.pl (.slice none 0 0) N.snk N.src from HN0)
 have HOt0 := hid (OTr.start hb2)
 have hob : (w.alloc (.cells #[.int .i64 N.pl, .slice A n c, .int .i64 N.src, .int .i64 N.snk] 24)).heap.size ≤ w.heap.size + 1 + 1 := by omega
 have hrb : (w.alloc (.cells #[.int .i64 N.pl, .slice A n c, .int .i64 N.src, .int .i64 N.snk] 24)).heap.size ≤ w.heap.size + 1 := by omega
 have hrob : w.heap.size + 1 ≠ w.heap.size + 1 + 1 := by omega
 clear HN0 HZ0 hb2 hb3 hs0
 generalize w.heap.size + 1 + 1 = ob at *
 generalize w.heap.size + 1 = rb at *
 generalize ((w.alloc (.cells #[.int .i64 N.pl, .slice A n c, .int .i64 N.src, .int .i64 N.snk] 24)).alloc (.cells #[.int .i64 0, .slice none 0 0, .int .i64 0, .int .i64 0] 24)).alloc (.cells #[.int .i64 N.pl, .slice none 0 0, .int .i64 N.snk, .int .i64 N.src] 24) = ws at *
 generalize w.alloc _ = wA at *
 go_loopg [4] (n) (fun g iv wr => ∃ (k : Nat) (v : Value), k + g = n ∧ iv = .int .i64 (k : Int) ∧ NtO wr ob N.pl v N.snk N.src ∧ NtO wr rb 0 (.slice none 0 0) 0 0 ∧ OTr wA wr v ((N.tr.take k).map revT))
 case atStart => exact ⟨0, _, by omega, rfl, HNo0.out, HRb0.out, by simpa using HOt0.out⟩
 case round =>
  clear HNo0 HRb0 HOt0
  obtain ⟨k, v, hk, rfl, hN, hRb, hO⟩ := hrel
  have HK := hid hk
  have HN := hid hN
  have HRr := hid hRb
  have HO := hid hO
  have HBw := hid hO.bel
  have hkn : k ≤ n := by omega
  obtain ⟨b0, b1, b2, b3⟩ := (HNb.out.below hO.bel).cells
  clear hk hN hRb hO
  by_cases hlt : k < n
  · have hkt : k < N.tr.length := by rw [HNl.out]; exact hlt
    obtain ⟨ad, rfl, hpa, t0', ⟨u1, t1', s1⟩, u2, t2', s2⟩ := HIn.out k hkt
    have t0 := cell_stays HBw.out t0'
    have t1 := cell_stays HBw.out t1'
    have t2 := cell_stays HBw.out t2'
    obtain ⟨hli, hlo⟩ := HLen.out _ (List.getElem_mem hkt)
    have HRs := hid (rev_step N.tr k hkt)
    have HLk := hid (show ((N.tr.take k).map revT).length = k by rw [List.length_map, List.length_take]; omega)
    generalize N.tr[k] = T at *
    obtain ⟨lb, li, lo⟩ := T
    simp only at hli hlo s1 s2 t0
    obtain ⟨Ai, ni, ci, rfl, zi, hi1, hi2, hi3⟩ := s1
    obtain ⟨Ao, no, co, rfl, zo, ho1, ho2, ho3⟩ := s2
    have HIl := hid hi1
    have HOl := hid ho1
    have hni : ni ≤ 1000 := by omega
    have hno : no ≤ 1000 := by omega
    have HAl := hid (below_alloc wr (.cells #[.string lb, .slice Ai ni ci, .slice Ao no co] 45))
    have HTB := hid (TB.new wr lb Ai ni ci Ao no co)
    clear hkt t0' t1' t2' hi1 ho1 hpa
    go_upto_region 6 with (fail)
    clear b0 b1 b2 b3 t0 t1 t2
    have HDr := hid (Below.refl (wr.alloc (.cells #[.string lb, .slice Ai ni ci, .slice Ao no co] 45)).heap.size (wr.alloc (.cells #[.string lb, .slice Ai ni ci, .slice Ao no co] 45))).drew
    have HBa := hid (HAl.out.trans (HDr.out.mono HAl.out.size))
    have HNo := hid (HN.out.below HBa.out)
    have HRb := hid (HRr.out.below HBa.out)
    have HR := hid (HO.out.below HBa.out)
    have HTd := hid (HTB.out.below HDr.out)
    have HZi := hid (zi.below (HBw.out.trans (HBa.out.mono HBw.out.size)))
    have HZo := hid (zo.below (HBw.out.trans (HBa.out.mono HBw.out.size)))
    have HTo := hid (show wr.heap.size < (wr.alloc (.cells #[.string lb, .slice Ai ni ci, .slice Ao no co] 45)).drew.heap.size by have := HDr.out.size; simp at this ⊢)
    obtain ⟨SL0, hw0, _, _, _⟩ := HO.out
    have HRo := hid (fun g (hg : v.ownBlock = some g) => (hw0.lt g hg).2)
    rw [HLk.out] at hw0
    obtain ⟨Al, cl0, rfl, _⟩ := row_slice hw0
    have C0 := hid HNo.out.cells.2.1
    have C1 := hid HTd.out.1
    have C2 := hid HTd.out.2.1
    have C3 := hid HTd.out.2.2
    have hS0 := And.intro C0.out (And.intro C1.out (And.intro C2.out C3.out))
    clear hw0 zi zo HTB HTd HAl HDr HBa HN HRr HO HBw
    generalize wr.heap.size = tb at *
    refine wp_region_e_drew 16 (S := fun w' => w'.cell? ⟨ob, 1, none⟩ = some (.slice Al k cl0) ∧ w'.cell? ⟨tb, 0, none⟩ = some (.string lb) ∧ w'.cell? ⟨tb, 1, none⟩ = some (.slice Ai ni ci) ∧ w'.cell? ⟨tb, 2, none⟩ = some (.slice Ao no co)) (by kernel_rfl) hS0 (fun hHeld => ?_)
    clear hS0
    generalize (wr.alloc _).drew = wd at *
    have HBd0 := hid (Below.refl wd.heap.size wd)
    refine wpAnyE_take (i := 0) (v := ?_) [1, 14, 15, 16] rfl (by kernel_rfl) (by kernel_rfl) (by kernel_rfl) (by kernel_rfl) (by kernel_rfl) (by kernel_rfl) (fun _ _ _ h => h) (Or.inl ⟨by rfl, ?_⟩) (by assumption) ?_
    rotate_left
    · intro w hSw; (try dsimp only at hSw); go_simp; try (with_reducible rfl)
    try go_simp
    refine wpAnyE_take (i := 1) (v := ?_) [14, 15, 16] rfl (by kernel_rfl) (by kernel_rfl) (by kernel_rfl) (by kernel_rfl) (by kernel_rfl) (by kernel_rfl) (fun _ _ _ h => h) (Or.inl ⟨by rfl, ?_⟩) (by assumption) ?_
    rotate_left
    · intro w hSw; (try dsimp only at hSw); go_simp; try (with_reducible rfl)
    try go_simp
    refine wpAnyE_take (i := 2) (v := ?_) [3, 12, 13, 14, 15, 16] rfl (by kernel_rfl) (by kernel_rfl) (by kernel_rfl) (by kernel_rfl) (by kernel_rfl) (by kernel_rfl) (fun _ _ _ h => h) (Or.inl ⟨by rfl, ?_⟩) (by assumption) ?_
    rotate_left
    · intro w hSw; (try dsimp only at hSw); go_simp; try (with_reducible rfl)
    try go_simp
    refine wpAnyE_take (i := 3) (v := ?_) [12, 13, 14, 15, 16] rfl (by kernel_rfl) (by kernel_rfl) (by kernel_rfl) (by kernel_rfl) (by kernel_rfl) (by kernel_rfl) (fun _ _ _ h => h) (Or.inl ⟨by rfl, ?_⟩) (by assumption) ?_
    rotate_left
    · intro w hSw; (try dsimp only at hSw); go_simp; try (with_reducible rfl)
    try go_simp
    refine wpAnyE_take (i := 5) (v := ?_) [6, 7, 11, 12, 13, 14, 15, 16] rfl (by kernel_rfl) (by kernel_rfl) (by kernel_rfl) (by kernel_rfl) (by kernel_rfl) (by kernel_rfl) (fun _ _ _ h => h) (Or.inl ⟨by rfl, ?_⟩) (by assumption) ?_
    rotate_left
    · intro w hSw; (try dsimp only at hSw); go_simp; try (with_reducible rfl)
    try go_simp
    refine wpAnyE_take (i := 6) (v := ?_) [7, 11, 12, 13, 14, 15, 16] rfl (by kernel_rfl) (by kernel_rfl) (by kernel_rfl) (by kernel_rfl) (by kernel_rfl) (by kernel_rfl) (fun _ _ _ h => h) (Or.inl ⟨by rfl, ?_⟩) (by assumption) ?_
    rotate_left
    · intro w hSw; (try dsimp only at hSw); go_simp; try (with_reducible rfl)
    try go_simp
    refine wpAnyE_take (i := 9) (v := ?_) [10, 11, 12, 13, 14, 15, 16] rfl (by kernel_rfl) (by kernel_rfl) (by kernel_rfl) (by kernel_rfl) (by kernel_rfl) (by kernel_rfl) (fun _ _ _ h => h) (Or.inl ⟨by rfl, ?_⟩) (by assumption) ?_
    rotate_left
    · intro w hSw; (try dsimp only at hSw); go_simp; try (with_reducible rfl)
    try go_simp
    refine wpAnyE_take (i := 10) (v := ?_) [11, 12, 13, 14, 15, 16] rfl (by kernel_rfl) (by kernel_rfl) (by kernel_rfl) (by kernel_rfl) (by kernel_rfl) (by kernel_rfl) (fun _ _ _ h => h) (Or.inl ⟨by rfl, ?_⟩) (by assumption) ?_
    rotate_left
    · intro w hSw; (try dsimp only at hSw); go_simp; try (with_reducible rfl)
    try go_simp
    refine wpAnyE_two (i := 4) (j := 8) (by kernel_rfl) rfl rfl (fun K9 hK => ?_) (fun K9 hK => ?_)
    · go_simp
      have HBd1 := hid (HBd0.out.trans ((below_alloc wd (.cells #[] 3)).mono HBd0.out.size))
      have HO41 := hid (own_lit0 wd)
      have He41 := hid (heap_alloc_new wd (.cells #[] 3))
      refine hK.out _ _ (fun _ => ⟨cell_stays HBd1.out C0.out, cell_stays HBd1.out C1.out, cell_stays HBd1.out C2.out, cell_stays HBd1.out C3.out⟩) (fun hH => ?_)
      have hHeld := hH (by decide)
      clear hH hK K9
      try go_simp
      obtain ⟨a4, ha4⟩ : ∃ a, wd.heap.size = a := ⟨_, rfl⟩
      have hge4 : wd.heap.size ≤ a4 := by have := HBd0.out.size; omega
      rw [ha4] at HO41 He41
      rw [ha4]
      generalize wd.alloc (.cells #[] 3) = w1 at *
      clear ha4
      refine wpAnyE_two (i := 7) (j := 8) (by kernel_rfl) rfl rfl (fun K9 hK => ?_) (fun K9 hK => ?_)
      · refine step_append_zin rfl _ _ 25 rfl a4 3 i0 (.int .i64 0) 8 Tryz.underlying25 HI.out.1 HI.out.2.1 HI.out.2.2.1 HI.out.2.2.2 rfl (.slice (some ⟨a4, 0, none⟩) 0 0) 0 [] rfl HO41.out Ao no co lo rfl (HZo.out.below HBd1.out) HOl.out ?c3 ?c4 ?c5 ?_
        case c3 => unfold maxLen; omega
        case c4 => omega
        case c5 => exact Nat.le_of_lt (Array.getElem?_eq_some_iff.1 He41.out).1
        intro v7 w2 hown hgrow
        have HBd2 := hid (HBd1.out.grown hgrow HBd1.out.size (fun x hx => by cases hx; exact hge4))
        have HI72 := hid (IRw.of_own (l := lo) (by simpa using hown) HOl.out)
        refine hK.out _ _ (fun _ => ⟨cell_stays HBd2.out C0.out, cell_stays HBd2.out C1.out, cell_stays HBd2.out C2.out, cell_stays HBd2.out C3.out⟩) (fun hH => ?_)
        have hHeld := hH (by decide)
        clear hH hK K9
        try go_simp
        clear hown hgrow
        refine wpAnyE_one (i := 8) (by kernel_rfl) rfl (fun K9 hK => ?_)
        go_simp
        have HBd3 := hid (HBd2.out.trans ((below_alloc w2 (.cells #[] 3)).mono HBd2.out.size))
        have HO83 := hid (own_lit0 w2)
        have He83 := hid (heap_alloc_new w2 (.cells #[] 3))
        have HI73 := hid (HI72.out.below (below_alloc w2 (.cells #[] 3)))
        refine hK.out _ _ (fun _ => ⟨cell_stays HBd3.out C0.out, cell_stays HBd3.out C1.out, cell_stays HBd3.out C2.out, cell_stays HBd3.out C3.out⟩) (fun hH => ?_)
        have hHeld := hH (by decide)
        clear hH hK K9
        try go_simp
        obtain ⟨a8, ha8⟩ : ∃ a, w2.heap.size = a := ⟨_, rfl⟩
        have hge8 : wd.heap.size ≤ a8 := by have := HBd2.out.size; omega
        rw [ha8] at HO83 He83
        rw [ha8]
        generalize w2.alloc (.cells #[] 3) = w3 at *
        clear ha8
        refine wpAnyE_one (i := 11) (by kernel_rfl) rfl (fun K9 hK => ?_)
        refine step_append_zin rfl _ _ 25 rfl a8 3 i0 (.int .i64 0) 8 Tryz.underlying25 HI.out.1 HI.out.2.1 HI.out.2.2.1 HI.out.2.2.2 rfl (.slice (some ⟨a8, 0, none⟩) 0 0) 0 [] rfl HO83.out Ai ni ci li rfl (HZi.out.below HBd3.out) HIl.out ?c3 ?c4 ?c5 ?_
        case c3 => unfold maxLen; omega
        case c4 => omega
        case c5 => exact Nat.le_of_lt (Array.getElem?_eq_some_iff.1 He83.out).1
        intro v11 w4 hown hgrow
        have HBd4 := hid (HBd3.out.grown hgrow HBd3.out.size (fun x hx => by cases hx; exact hge8))
        have HI114 := hid (IRw.of_own (l := li) (by simpa using hown) HIl.out)
        have HI74 := hid (HI73.out.grown He83.out hgrow)
        refine hK.out _ _ (fun _ => ⟨cell_stays HBd4.out C0.out, cell_stays HBd4.out C1.out, cell_stays HBd4.out C2.out, cell_stays HBd4.out C3.out⟩) (fun hH => ?_)
        have hHeld := hH (by decide)
        clear hH hK K9
        try go_simp
        clear hown hgrow
        obtain ⟨A7, c7, e7, h7⟩ := HI74.out
        obtain ⟨A11, c11, e11, h11⟩ := HI114.out
        subst e7
        subst e11
        clear h7 h11
        refine wpAnyE_take (i := 12) (v := ?_) [13, 14, 15, 16] rfl (by kernel_rfl) (by kernel_rfl) (by kernel_rfl) (by kernel_rfl) (by kernel_rfl) (by kernel_rfl) (fun _ _ _ h => h) (Or.inl ⟨by rfl, ?_⟩) (by assumption) ?_
        rotate_left
        · intro w hSw; (try dsimp only at hSw); go_simp; try (with_reducible rfl)
        try go_simp
        have hal := below_alloc w4 (.cells #[.string lb, .slice A7 lo.length c7, .slice A11 li.length c11] 45)
        have HBe := hid (HBd4.out.trans (hal.mono HBd4.out.size))
        have HIa := hid (HI74.out.below hal)
        have HIb := hid (HI114.out.below hal)
        have HOT := HR.out.below HBe.out
        obtain ⟨SL, hown0, hsl2, hsl3, hsl4⟩ := HOT
        have hown1 := hown0
        rw [HLk.out] at hown1
        have hnb := (HNo.out.below HBd4.out).lt
        refine wpAnyE_one (i := 13) (by kernel_rfl) rfl (fun K9 hK => ?_)
        go_simp
        refine hK.out _ _ (fun _ => ⟨cell_stays HBe.out C0.out, cell_stays HBe.out C1.out, cell_stays HBe.out C2.out, cell_stays HBe.out C3.out⟩) (fun hH => ?_)
        have hHeld := hH (by decide)
        clear hH hK K9
        try go_simp
        refine wpAnyE_one (i := 14) (by kernel_rfl) rfl (fun K9 hK => ?_)
        refine step_append_own rfl _ _ 22 rfl wA.heap.size 45 i1 (.agg #[.string ⟨#[]⟩, .slice none 0 0, .slice none 0 0]) 3 64 Tryz.underlying22 HI1.out.1 HI1.out.2.1 HI1.out.2.2.1 HI1.out.2.2.2 rfl (by decide) (.slice Al k cl0) k (SL.flatMap c3) rfl hown1 ⟨w4.heap.size, 0, none⟩ 1 1 [.string lb, .slice A7 lo.length c7, .slice A11 li.length c11] rfl rfl ?c1 ?c2 ?c3 ?c4 ?c5 ?_
        case c1 => exact news_blk (heap_alloc_new w4 (.cells #[.string lb, .slice A7 lo.length c7, .slice A11 li.length c11] 45))
        case c2 =>
         intro u hu
         have h1 : u = .string lb ∨ u = .slice A7 lo.length c7 ∨ u = .slice A11 li.length c11 := by simpa using hu
         rcases h1 with rfl | rfl | rfl <;> rfl
        case c3 => unfold maxLen; omega
        case c4 => omega
        case c5 => exact hsl4.size
        intro v14 w90 hown9 hgrow9
        obtain ⟨A14, c14, e14, _⟩ := row_slice hown9
        subst e14
        have hlow : ∀ b : Nat, b < wd.heap.size → some b ≠ (Value.slice Al k cl0).ownBlock → w90.heap[b]? = wd.heap[b]? := fun b hb hne => by
         rw [hgrow9.block b (by have := HBe.out.size; omega) hne, HBe.out.block b hb]
        have hne1 : some ob ≠ (Value.slice Al k cl0).ownBlock := row_block hown1 (show (w4.alloc _).heap[ob]? = _ from (HNo.out.below HBe.out)) (by decide)
        have hne2 : some tb ≠ (Value.slice Al k cl0).ownBlock := fun e => by have := HRo.out tb e.symm; omega
        have HNo9 := hid (show NtO w90 ob N.pl (.slice Al k cl0) N.snk N.src by unfold NtO; rw [hlow ob HNo.out.lt hne1]; exact HNo.out)
        have hne3 : some rb ≠ (Value.slice Al k cl0).ownBlock := row_block hown1 (show (w4.alloc _).heap[rb]? = _ from (HRb.out.below HBe.out)) (by decide)
        have HRb9 := hid (show NtO w90 rb 0 (.slice none 0 0) 0 0 by unfold NtO; rw [hlow rb HRb.out.lt hne3]; exact HRb.out)
        have HTb9 : w90.heap[tb]? = wd.heap[tb]? := hlow tb HTo.out hne2
        have y0 := HNo9.out.cells.2.1
        have y1 : w90.cell? ⟨tb, 0, none⟩ = some (.string lb) := by rw [cell_heap HTb9]; exact C1.out
        have y2 : w90.cell? ⟨tb, 1, none⟩ = some (.slice Ai ni ci) := by rw [cell_heap HTb9]; exact C2.out
        have y3 : w90.cell? ⟨tb, 2, none⟩ = some (.slice Ao no co) := by rw [cell_heap HTb9]; exact C3.out
        have xf := HNo9.out.soft 1
        have HOt9 := hid (OTr.push (x := ⟨lb, .slice A7 lo.length c7, .slice A11 li.length c11⟩) (t := revT ⟨lb, li, lo⟩) hown0 hsl2 hsl3 hsl4 ⟨rfl, HIa.out, HIb.out⟩ (by rw [HLk.out]; exact hown9) hgrow9)
        rw [← HRs.out] at HOt9
        have HNs := hid (show NtO (w90.setCell ⟨ob, 1, none⟩ (.slice A14 (k + 1) c14)) ob N.pl (.slice A14 (k + 1) c14) N.snk N.src by unfold NtO; rw [heap_set2 HNo9.out]; rfl)
        have HRbs := hid (show NtO (w90.setCell ⟨ob, 1, none⟩ (.slice A14 (k + 1) c14)) rb 0 (.slice none 0 0) 0 0 by
         unfold NtO
         rw [(Lib.grownBy_setB (grown_refl w90 (some ob)) 1 (.slice A14 (k + 1) c14)).block rb HRb9.out.lt (fun e => hrob (by cases e; rfl))]
         exact HRb9.out)
        have HOs := hid (HOt9.out.box (o := 1) HNo9.out (by decide) (by decide) hob (.slice A14 (k + 1) c14))
        refine hK.out _ _ (fun _ => ⟨y0, y1, y2, y3⟩) (fun hH => ?_)
        have hHeld := hH (by decide)
        clear hH hK K9 y0 y1 y2 y3 hown0 hown1 hsl2 hsl3 hsl4 hal hown9 hgrow9 hlow hne1 hne2 hne3 HTb9 hnb
        try go_simp
        refine wpAnyE_take (i := 15) (v := ?_) [16] rfl (by kernel_rfl) (by kernel_rfl) (by kernel_rfl) (by kernel_rfl) (by kernel_rfl) (by kernel_rfl) (fun _ _ _ h => h) (Or.inl ⟨by rfl, ?_⟩) (by assumption) ?_
        rotate_left
        · intro w hSw; (try dsimp only at hSw); go_simp; try (with_reducible rfl)
        try go_simp
        refine wpAnyE_one (i := 16) (by kernel_rfl) rfl (fun K hK => ?_)
        go_simp
        skip
        refine hK.out _ _ (fun h => absurd rfl h) (fun _ => ?_)
        clear hK K
        try go_simp
        refine wpAnyE_done (by kernel_rfl) ?_ _
        clear hHeld xf HOt9 HNo9 HRb9 HBe HIa HIb
        generalize w90.setCell ⟨ob, 1, none⟩ (.slice A14 (k + 1) c14) = w91 at *
        go_wp2_with fail
        go_roundg (gk - 1)
        case measure => have := HK.out; omega
        case rel => exact ⟨k + 1, (.slice A14 (k + 1) c14), by have := HK.out; omega, by go_num, HNs.out, HRbs.out, HOs.out⟩
      · go_simp
        have HBd2 := hid (HBd1.out.trans ((below_alloc w1 (.cells #[] 3)).mono HBd1.out.size))
        have HO82 := hid (own_lit0 w1)
        have He82 := hid (heap_alloc_new w1 (.cells #[] 3))
        have HO42 := hid (HO41.out.alloc (.cells #[] 3))
        have hne48 : a4 < w1.heap.size := (Array.getElem?_eq_some_iff.1 He41.out).1
        have He42 := hid (show (w1.alloc (.cells #[] 3)).heap[a4]? = some (.cells #[] 3 (0, 0)) by rw [(below_alloc w1 (.cells #[] 3)).block a4 hne48]; exact He41.out)
        refine hK.out _ _ (fun _ => ⟨cell_stays HBd2.out C0.out, cell_stays HBd2.out C1.out, cell_stays HBd2.out C2.out, cell_stays HBd2.out C3.out⟩) (fun hH => ?_)
        have hHeld := hH (by decide)
        clear hH hK K9
        try go_simp
        obtain ⟨a8, ha8⟩ : ∃ a, w1.heap.size = a := ⟨_, rfl⟩
        have hge8 : wd.heap.size ≤ a8 := by have := HBd1.out.size; omega
        rw [ha8] at HO82 He82 hne48
        rw [ha8]
        generalize w1.alloc (.cells #[] 3) = w2 at *
        clear ha8
        refine wpAnyE_one (i := 7) (by kernel_rfl) rfl (fun K9 hK => ?_)
        refine step_append_zin rfl _ _ 25 rfl a4 3 i0 (.int .i64 0) 8 Tryz.underlying25 HI.out.1 HI.out.2.1 HI.out.2.2.1 HI.out.2.2.2 rfl (.slice (some ⟨a4, 0, none⟩) 0 0) 0 [] rfl HO42.out Ao no co lo rfl (HZo.out.below HBd2.out) HOl.out ?c3 ?c4 ?c5 ?_
        case c3 => unfold maxLen; omega
        case c4 => omega
        case c5 => exact Nat.le_of_lt (Array.getElem?_eq_some_iff.1 He42.out).1
        intro v7 w3 hown hgrow
        have HBd3 := hid (HBd2.out.grown hgrow HBd2.out.size (fun x hx => by cases hx; exact hge4))
        have HI73 := hid (IRw.of_own (l := lo) (by simpa using hown) HOl.out)
        have HO83 := hid (HO82.out.kept hgrow (Or.inr (fun e => by have e2 : a8 = a4 := (by simpa [Value.ownBlock] using e); omega)))
        have He83 := hid (show w3.heap[a8]? = some (.cells #[] 3 (0, 0)) by rw [hgrow.block a8 (Array.getElem?_eq_some_iff.1 He82.out).1 (fun e => by have e2 : a8 = a4 := (by simpa [Value.ownBlock] using e); omega)]; exact He82.out)
        refine hK.out _ _ (fun _ => ⟨cell_stays HBd3.out C0.out, cell_stays HBd3.out C1.out, cell_stays HBd3.out C2.out, cell_stays HBd3.out C3.out⟩) (fun hH => ?_)
        have hHeld := hH (by decide)
        clear hH hK K9
        try go_simp
        clear hown hgrow
        refine wpAnyE_one (i := 11) (by kernel_rfl) rfl (fun K9 hK => ?_)
        refine step_append_zin rfl _ _ 25 rfl a8 3 i0 (.int .i64 0) 8 Tryz.underlying25 HI.out.1 HI.out.2.1 HI.out.2.2.1 HI.out.2.2.2 rfl (.slice (some ⟨a8, 0, none⟩) 0 0) 0 [] rfl HO83.out Ai ni ci li rfl (HZi.out.below HBd3.out) HIl.out ?c3 ?c4 ?c5 ?_
        case c3 => unfold maxLen; omega
        case c4 => omega
        case c5 => exact Nat.le_of_lt (Array.getElem?_eq_some_iff.1 He83.out).1
        intro v11 w4 hown hgrow
        have HBd4 := hid (HBd3.out.grown hgrow HBd3.out.size (fun x hx => by cases hx; exact hge8))
        have HI114 := hid (IRw.of_own (l := li) (by simpa using hown) HIl.out)
        have HI74 := hid (HI73.out.grown He83.out hgrow)
        refine hK.out _ _ (fun _ => ⟨cell_stays HBd4.out C0.out, cell_stays HBd4.out C1.out, cell_stays HBd4.out C2.out, cell_stays HBd4.out C3.out⟩) (fun hH => ?_)
        have hHeld := hH (by decide)
        clear hH hK K9
        try go_simp
        clear hown hgrow
        obtain ⟨A7, c7, e7, h7⟩ := HI74.out
        obtain ⟨A11, c11, e11, h11⟩ := HI114.out
        subst e7
        subst e11
        clear h7 h11
        refine wpAnyE_take (i := 12) (v := ?_) [13, 14, 15, 16] rfl (by kernel_rfl) (by kernel_rfl) (by kernel_rfl) (by kernel_rfl) (by kernel_rfl) (by kernel_rfl) (fun _ _ _ h => h) (Or.inl ⟨by rfl, ?_⟩) (by assumption) ?_
        rotate_left
        · intro w hSw; (try dsimp only at hSw); go_simp; try (with_reducible rfl)
        try go_simp
        have hal := below_alloc w4 (.cells #[.string lb, .slice A7 lo.length c7, .slice A11 li.length c11] 45)
        have HBe := hid (HBd4.out.trans (hal.mono HBd4.out.size))
        have HIa := hid (HI74.out.below hal)
        have HIb := hid (HI114.out.below hal)
        have HOT := HR.out.below HBe.out
        obtain ⟨SL, hown0, hsl2, hsl3, hsl4⟩ := HOT
        have hown1 := hown0
        rw [HLk.out] at hown1
        have hnb := (HNo.out.below HBd4.out).lt
        refine wpAnyE_one (i := 13) (by kernel_rfl) rfl (fun K9 hK => ?_)
        go_simp
        refine hK.out _ _ (fun _ => ⟨cell_stays HBe.out C0.out, cell_stays HBe.out C1.out, cell_stays HBe.out C2.out, cell_stays HBe.out C3.out⟩) (fun hH => ?_)
        have hHeld := hH (by decide)
        clear hH hK K9
        try go_simp
        refine wpAnyE_one (i := 14) (by kernel_rfl) rfl (fun K9 hK => ?_)
        refine step_append_own rfl _ _ 22 rfl wA.heap.size 45 i1 (.agg #[.string ⟨#[]⟩, .slice none 0 0, .slice none 0 0]) 3 64 Tryz.underlying22 HI1.out.1 HI1.out.2.1 HI1.out.2.2.1 HI1.out.2.2.2 rfl (by decide) (.slice Al k cl0) k (SL.flatMap c3) rfl hown1 ⟨w4.heap.size, 0, none⟩ 1 1 [.string lb, .slice A7 lo.length c7, .slice A11 li.length c11] rfl rfl ?c1 ?c2 ?c3 ?c4 ?c5 ?_
        case c1 => exact news_blk (heap_alloc_new w4 (.cells #[.string lb, .slice A7 lo.length c7, .slice A11 li.length c11] 45))
        case c2 =>
         intro u hu
         have h1 : u = .string lb ∨ u = .slice A7 lo.length c7 ∨ u = .slice A11 li.length c11 := by simpa using hu
         rcases h1 with rfl | rfl | rfl <;> rfl
        case c3 => unfold maxLen; omega
        case c4 => omega
        case c5 => exact hsl4.size
        intro v14 w90 hown9 hgrow9
        obtain ⟨A14, c14, e14, _⟩ := row_slice hown9
        subst e14
        have hlow : ∀ b : Nat, b < wd.heap.size → some b ≠ (Value.slice Al k cl0).ownBlock → w90.heap[b]? = wd.heap[b]? := fun b hb hne => by
         rw [hgrow9.block b (by have := HBe.out.size; omega) hne, HBe.out.block b hb]
        have hne1 : some ob ≠ (Value.slice Al k cl0).ownBlock := row_block hown1 (show (w4.alloc _).heap[ob]? = _ from (HNo.out.below HBe.out)) (by decide)
        have hne2 : some tb ≠ (Value.slice Al k cl0).ownBlock := fun e => by have := HRo.out tb e.symm; omega
        have HNo9 := hid (show NtO w90 ob N.pl (.slice Al k cl0) N.snk N.src by unfold NtO; rw [hlow ob HNo.out.lt hne1]; exact HNo.out)
        have hne3 : some rb ≠ (Value.slice Al k cl0).ownBlock := row_block hown1 (show (w4.alloc _).heap[rb]? = _ from (HRb.out.below HBe.out)) (by decide)
        have HRb9 := hid (show NtO w90 rb 0 (.slice none 0 0) 0 0 by unfold NtO; rw [hlow rb HRb.out.lt hne3]; exact HRb.out)
        have HTb9 : w90.heap[tb]? = wd.heap[tb]? := hlow tb HTo.out hne2
        have y0 := HNo9.out.cells.2.1
        have y1 : w90.cell? ⟨tb, 0, none⟩ = some (.string lb) := by rw [cell_heap HTb9]; exact C1.out
        have y2 : w90.cell? ⟨tb, 1, none⟩ = some (.slice Ai ni ci) := by rw [cell_heap HTb9]; exact C2.out
        have y3 : w90.cell? ⟨tb, 2, none⟩ = some (.slice Ao no co) := by rw [cell_heap HTb9]; exact C3.out
        have xf := HNo9.out.soft 1
        have HOt9 := hid (OTr.push (x := ⟨lb, .slice A7 lo.length c7, .slice A11 li.length c11⟩) (t := revT ⟨lb, li, lo⟩) hown0 hsl2 hsl3 hsl4 ⟨rfl, HIa.out, HIb.out⟩ (by rw [HLk.out]; exact hown9) hgrow9)
        rw [← HRs.out] at HOt9
        have HNs := hid (show NtO (w90.setCell ⟨ob, 1, none⟩ (.slice A14 (k + 1) c14)) ob N.pl (.slice A14 (k + 1) c14) N.snk N.src by unfold NtO; rw [heap_set2 HNo9.out]; rfl)
        have HRbs := hid (show NtO (w90.setCell ⟨ob, 1, none⟩ (.slice A14 (k + 1) c14)) rb 0 (.slice none 0 0) 0 0 by
         unfold NtO
         rw [(Lib.grownBy_setB (grown_refl w90 (some ob)) 1 (.slice A14 (k + 1) c14)).block rb HRb9.out.lt (fun e => hrob (by cases e; rfl))]
         exact HRb9.out)
        have HOs := hid (HOt9.out.box (o := 1) HNo9.out (by decide) (by decide) hob (.slice A14 (k + 1) c14))
        refine hK.out _ _ (fun _ => ⟨y0, y1, y2, y3⟩) (fun hH => ?_)
        have hHeld := hH (by decide)
        clear hH hK K9 y0 y1 y2 y3 hown0 hown1 hsl2 hsl3 hsl4 hal hown9 hgrow9 hlow hne1 hne2 hne3 HTb9 hnb
        try go_simp
        refine wpAnyE_take (i := 15) (v := ?_) [16] rfl (by kernel_rfl) (by kernel_rfl) (by kernel_rfl) (by kernel_rfl) (by kernel_rfl) (by kernel_rfl) (fun _ _ _ h => h) (Or.inl ⟨by rfl, ?_⟩) (by assumption) ?_
        rotate_left
        · intro w hSw; (try dsimp only at hSw); go_simp; try (with_reducible rfl)
        try go_simp
        refine wpAnyE_one (i := 16) (by kernel_rfl) rfl (fun K hK => ?_)
        go_simp
        skip
        refine hK.out _ _ (fun h => absurd rfl h) (fun _ => ?_)
        clear hK K
        try go_simp
        refine wpAnyE_done (by kernel_rfl) ?_ _
        clear hHeld xf HOt9 HNo9 HRb9 HBe HIa HIb
        generalize w90.setCell ⟨ob, 1, none⟩ (.slice A14 (k + 1) c14) = w91 at *
        go_wp2_with fail
        go_roundg (gk - 1)
        case measure => have := HK.out; omega
        case rel => exact ⟨k + 1, (.slice A14 (k + 1) c14), by have := HK.out; omega, by go_num, HNs.out, HRbs.out, HOs.out⟩
    · go_simp
      have HBd1 := hid (HBd0.out.trans ((below_alloc wd (.cells #[] 3)).mono HBd0.out.size))
      have HO81 := hid (own_lit0 wd)
      have He81 := hid (heap_alloc_new wd (.cells #[] 3))
      refine hK.out _ _ (fun _ => ⟨cell_stays HBd1.out C0.out, cell_stays HBd1.out C1.out, cell_stays HBd1.out C2.out, cell_stays HBd1.out C3.out⟩) (fun hH => ?_)
      have hHeld := hH (by decide)
      clear hH hK K9
      try go_simp
      obtain ⟨a8, ha8⟩ : ∃ a, wd.heap.size = a := ⟨_, rfl⟩
      have hge8 : wd.heap.size ≤ a8 := by have := HBd0.out.size; omega
      rw [ha8] at HO81 He81
      rw [ha8]
      generalize wd.alloc (.cells #[] 3) = w1 at *
      clear ha8
      refine wpAnyE_one (i := 4) (by kernel_rfl) rfl (fun K9 hK => ?_)
      go_simp
      have HBd2 := hid (HBd1.out.trans ((below_alloc w1 (.cells #[] 3)).mono HBd1.out.size))
      have HO42 := hid (own_lit0 w1)
      have He42 := hid (heap_alloc_new w1 (.cells #[] 3))
      have HO82 := hid (HO81.out.alloc (.cells #[] 3))
      have hne84 : a8 < w1.heap.size := (Array.getElem?_eq_some_iff.1 He81.out).1
      have He82 := hid (show (w1.alloc (.cells #[] 3)).heap[a8]? = some (.cells #[] 3 (0, 0)) by rw [(below_alloc w1 (.cells #[] 3)).block a8 hne84]; exact He81.out)
      refine hK.out _ _ (fun _ => ⟨cell_stays HBd2.out C0.out, cell_stays HBd2.out C1.out, cell_stays HBd2.out C2.out, cell_stays HBd2.out C3.out⟩) (fun hH => ?_)
      have hHeld := hH (by decide)
      clear hH hK K9
      try go_simp
      obtain ⟨a4, ha4⟩ : ∃ a, w1.heap.size = a := ⟨_, rfl⟩
      have hge4 : wd.heap.size ≤ a4 := by have := HBd1.out.size; omega
      rw [ha4] at HO42 He42 hne84
      rw [ha4]
      generalize w1.alloc (.cells #[] 3) = w2 at *
      clear ha4
      refine wpAnyE_one (i := 7) (by kernel_rfl) rfl (fun K9 hK => ?_)
      refine step_append_zin rfl _ _ 25 rfl a4 3 i0 (.int .i64 0) 8 Tryz.underlying25 HI.out.1 HI.out.2.1 HI.out.2.2.1 HI.out.2.2.2 rfl (.slice (some ⟨a4, 0, none⟩) 0 0) 0 [] rfl HO42.out Ao no co lo rfl (HZo.out.below HBd2.out) HOl.out ?c3 ?c4 ?c5 ?_
      case c3 => unfold maxLen; omega
      case c4 => omega
      case c5 => exact Nat.le_of_lt (Array.getElem?_eq_some_iff.1 He42.out).1
      intro v7 w3 hown hgrow
      have HBd3 := hid (HBd2.out.grown hgrow HBd2.out.size (fun x hx => by cases hx; exact hge4))
      have HI73 := hid (IRw.of_own (l := lo) (by simpa using hown) HOl.out)
      have HO83 := hid (HO82.out.kept hgrow (Or.inr (fun e => by have e2 : a8 = a4 := (by simpa [Value.ownBlock] using e); omega)))
      have He83 := hid (show w3.heap[a8]? = some (.cells #[] 3 (0, 0)) by rw [hgrow.block a8 (Array.getElem?_eq_some_iff.1 He82.out).1 (fun e => by have e2 : a8 = a4 := (by simpa [Value.ownBlock] using e); omega)]; exact He82.out)
      refine hK.out _ _ (fun _ => ⟨cell_stays HBd3.out C0.out, cell_stays HBd3.out C1.out, cell_stays HBd3.out C2.out, cell_stays HBd3.out C3.out⟩) (fun hH => ?_)
      have hHeld := hH (by decide)
      clear hH hK K9
      try go_simp
      clear hown hgrow
      refine wpAnyE_one (i := 11) (by kernel_rfl) rfl (fun K9 hK => ?_)
      refine step_append_zin rfl _ _ 25 rfl a8 3 i0 (.int .i64 0) 8 Tryz.underlying25 HI.out.1 HI.out.2.1 HI.out.2.2.1 HI.out.2.2.2 rfl (.slice (some ⟨a8, 0, none⟩) 0 0) 0 [] rfl HO83.out Ai ni ci li rfl (HZi.out.below HBd3.out) HIl.out ?c3 ?c4 ?c5 ?_
      case c3 => unfold maxLen; omega
      case c4 => omega
      case c5 => exact Nat.le_of_lt (Array.getElem?_eq_some_iff.1 He83.out).1
      intro v11 w4 hown hgrow
      have HBd4 := hid (HBd3.out.grown hgrow HBd3.out.size (fun x hx => by cases hx; exact hge8))
      have HI114 := hid (IRw.of_own (l := li) (by simpa using hown) HIl.out)
      have HI74 := hid (HI73.out.grown He83.out hgrow)
      refine hK.out _ _ (fun _ => ⟨cell_stays HBd4.out C0.out, cell_stays HBd4.out C1.out, cell_stays HBd4.out C2.out, cell_stays HBd4.out C3.out⟩) (fun hH => ?_)
      have hHeld := hH (by decide)
      clear hH hK K9
      try go_simp
      clear hown hgrow
      obtain ⟨A7, c7, e7, h7⟩ := HI74.out
      obtain ⟨A11, c11, e11, h11⟩ := HI114.out
      subst e7
      subst e11
      clear h7 h11
      refine wpAnyE_take (i := 12) (v := ?_) [13, 14, 15, 16] rfl (by kernel_rfl) (by kernel_rfl) (by kernel_rfl) (by kernel_rfl) (by kernel_rfl) (by kernel_rfl) (fun _ _ _ h => h) (Or.inl ⟨by rfl, ?_⟩) (by assumption) ?_
      rotate_left
      · intro w hSw; (try dsimp only at hSw); go_simp; try (with_reducible rfl)
      try go_simp
      have hal := below_alloc w4 (.cells #[.string lb, .slice A7 lo.length c7, .slice A11 li.length c11] 45)
      have HBe := hid (HBd4.out.trans (hal.mono HBd4.out.size))
      have HIa := hid (HI74.out.below hal)
      have HIb := hid (HI114.out.below hal)
      have HOT := HR.out.below HBe.out
      obtain ⟨SL, hown0, hsl2, hsl3, hsl4⟩ := HOT
      have hown1 := hown0
      rw [HLk.out] at hown1
      have hnb := (HNo.out.below HBd4.out).lt
      refine wpAnyE_one (i := 13) (by kernel_rfl) rfl (fun K9 hK => ?_)
      go_simp
      refine hK.out _ _ (fun _ => ⟨cell_stays HBe.out C0.out, cell_stays HBe.out C1.out, cell_stays HBe.out C2.out, cell_stays HBe.out C3.out⟩) (fun hH => ?_)
      have hHeld := hH (by decide)
      clear hH hK K9
      try go_simp
      refine wpAnyE_one (i := 14) (by kernel_rfl) rfl (fun K9 hK => ?_)
      refine step_append_own rfl _ _ 22 rfl wA.heap.size 45 i1 (.agg #[.string ⟨#[]⟩, .slice none 0 0, .slice none 0 0]) 3 64 Tryz.underlying22 HI1.out.1 HI1.out.2.1 HI1.out.2.2.1 HI1.out.2.2.2 rfl (by decide) (.slice Al k cl0) k (SL.flatMap c3) rfl hown1 ⟨w4.heap.size, 0, none⟩ 1 1 [.string lb, .slice A7 lo.length c7, .slice A11 li.length c11] rfl rfl ?c1 ?c2 ?c3 ?c4 ?c5 ?_
      case c1 => exact news_blk (heap_alloc_new w4 (.cells #[.string lb, .slice A7 lo.length c7, .slice A11 li.length c11] 45))
      case c2 =>
       intro u hu
       have h1 : u = .string lb ∨ u = .slice A7 lo.length c7 ∨ u = .slice A11 li.length c11 := by simpa using hu
       rcases h1 with rfl | rfl | rfl <;> rfl
      case c3 => unfold maxLen; omega
      case c4 => omega
      case c5 => exact hsl4.size
      intro v14 w90 hown9 hgrow9
      obtain ⟨A14, c14, e14, _⟩ := row_slice hown9
      subst e14
      have hlow : ∀ b : Nat, b < wd.heap.size → some b ≠ (Value.slice Al k cl0).ownBlock → w90.heap[b]? = wd.heap[b]? := fun b hb hne => by
       rw [hgrow9.block b (by have := HBe.out.size; omega) hne, HBe.out.block b hb]
      have hne1 : some ob ≠ (Value.slice Al k cl0).ownBlock := row_block hown1 (show (w4.alloc _).heap[ob]? = _ from (HNo.out.below HBe.out)) (by decide)
      have hne2 : some tb ≠ (Value.slice Al k cl0).ownBlock := fun e => by have := HRo.out tb e.symm; omega
      have HNo9 := hid (show NtO w90 ob N.pl (.slice Al k cl0) N.snk N.src by unfold NtO; rw [hlow ob HNo.out.lt hne1]; exact HNo.out)
      have hne3 : some rb ≠ (Value.slice Al k cl0).ownBlock := row_block hown1 (show (w4.alloc _).heap[rb]? = _ from (HRb.out.below HBe.out)) (by decide)
      have HRb9 := hid (show NtO w90 rb 0 (.slice none 0 0) 0 0 by unfold NtO; rw [hlow rb HRb.out.lt hne3]; exact HRb.out)
      have HTb9 : w90.heap[tb]? = wd.heap[tb]? := hlow tb HTo.out hne2
      have y0 := HNo9.out.cells.2.1
      have y1 : w90.cell? ⟨tb, 0, none⟩ = some (.string lb) := by rw [cell_heap HTb9]; exact C1.out
      have y2 : w90.cell? ⟨tb, 1, none⟩ = some (.slice Ai ni ci) := by rw [cell_heap HTb9]; exact C2.out
      have y3 : w90.cell? ⟨tb, 2, none⟩ = some (.slice Ao no co) := by rw [cell_heap HTb9]; exact C3.out
      have xf := HNo9.out.soft 1
      have HOt9 := hid (OTr.push (x := ⟨lb, .slice A7 lo.length c7, .slice A11 li.length c11⟩) (t := revT ⟨lb, li, lo⟩) hown0 hsl2 hsl3 hsl4 ⟨rfl, HIa.out, HIb.out⟩ (by rw [HLk.out]; exact hown9) hgrow9)
      rw [← HRs.out] at HOt9
      have HNs := hid (show NtO (w90.setCell ⟨ob, 1, none⟩ (.slice A14 (k + 1) c14)) ob N.pl (.slice A14 (k + 1) c14) N.snk N.src by unfold NtO; rw [heap_set2 HNo9.out]; rfl)
      have HRbs := hid (show NtO (w90.setCell ⟨ob, 1, none⟩ (.slice A14 (k + 1) c14)) rb 0 (.slice none 0 0) 0 0 by
       unfold NtO
       rw [(Lib.grownBy_setB (grown_refl w90 (some ob)) 1 (.slice A14 (k + 1) c14)).block rb HRb9.out.lt (fun e => hrob (by cases e; rfl))]
       exact HRb9.out)
      have HOs := hid (HOt9.out.box (o := 1) HNo9.out (by decide) (by decide) hob (.slice A14 (k + 1) c14))
      refine hK.out _ _ (fun _ => ⟨y0, y1, y2, y3⟩) (fun hH => ?_)
      have hHeld := hH (by decide)
      clear hH hK K9 y0 y1 y2 y3 hown0 hown1 hsl2 hsl3 hsl4 hal hown9 hgrow9 hlow hne1 hne2 hne3 HTb9 hnb
      try go_simp
      refine wpAnyE_take (i := 15) (v := ?_) [16] rfl (by kernel_rfl) (by kernel_rfl) (by kernel_rfl) (by kernel_rfl) (by kernel_rfl) (by kernel_rfl) (fun _ _ _ h => h) (Or.inl ⟨by rfl, ?_⟩) (by assumption) ?_
      rotate_left
      · intro w hSw; (try dsimp only at hSw); go_simp; try (with_reducible rfl)
      try go_simp
      refine wpAnyE_one (i := 16) (by kernel_rfl) rfl (fun K hK => ?_)
      go_simp
      skip
      refine hK.out _ _ (fun h => absurd rfl h) (fun _ => ?_)
      clear hK K
      try go_simp
      refine wpAnyE_done (by kernel_rfl) ?_ _
      clear hHeld xf HOt9 HNo9 HRb9 HBe HIa HIb
      generalize w90.setCell ⟨ob, 1, none⟩ (.slice A14 (k + 1) c14) = w91 at *
      go_wp2_with fail
      go_roundg (gk - 1)
      case measure => have := HK.out; omega
      case rel => exact ⟨k + 1, (.slice A14 (k + 1) c14), by have := HK.out; omega, by go_num, HNs.out, HRbs.out, HOs.out⟩
  · have hE : N.tr.take k = N.tr := List.take_of_length_le (by rw [HNl.out]; omega)
    rw [hE] at HO
    obtain ⟨n0, n1, n2, n3⟩ := HN.out.cells
    obtain ⟨r0, r1, r2, r3⟩ := HRr.out.cells
    have f0 := HRr.out.soft 0
    have f1 := HRr.out.soft 1
    have f2 := HRr.out.soft 2
    have f3 := HRr.out.soft 3
    obtain ⟨A', c', hv, hti⟩ := HO.out.tin
    rw [List.length_map, HNl.out] at hv
    subst hv
    have HOf := hid (HO.out.box4 HRr.out hrb (.int .i64 N.pl) (.slice A' n c') (.int .i64 N.snk) (.int .i64 N.src))
    have HNf := hid (show NtO ((((wr.setCell ⟨rb, 0, none⟩ (.int .i64 N.pl)).setCell ⟨rb, 1, none⟩ (.slice A' n c')).setCell ⟨rb, 2, none⟩ (.int .i64 N.snk)).setCell ⟨rb, 3, none⟩ (.int .i64 N.src)) rb N.pl (.slice A' n c') N.snk N.src by unfold NtO; rw [heap_set2 (heap_set2 (heap_set2 (heap_set2 HRr.out)))]; rfl)
    clear hti
    go_wp2_with fail
    obtain ⟨d0, d1, d2, d3⟩ := HNf.out.cells
    obtain ⟨A2, c2, hv2, hti2⟩ := HOf.out.tin
    injection hv2 with e1 _ _
    subst e1
    exact bodyPost_ret (v := .agg #[.int .i64 N.pl, .slice A' n c', .int .i64 N.snk, .int .i64 N.src]) (by simp [results, Tryz.results114, go_sem, d0, d1, d2, d3]) rfl ⟨_, _, rfl, hti2, HB.out.trans (HOf.out.bel.mono HB.out.size)⟩
end Go.Proofs.YtpnhcimmlnjfaaaGreatDoor
